/- What some functions of the program answer at values that mean given lists, texts and numbers, each proved of the program's own code: part 19. Conditions: those that each theorem names. -/
import Derived.Test.YtgjgpdceghjajaaGreatDoorSimplexKnownH18
import Derived.Test.YtgjgpdceghjajaaGreatDoorSimplexKnownH17
import Derived.Test.YtgjgpdceghjajaaGreatDoorSimplexKnownH15
import Derived.Test.YtgjgpdceghjajaaGreatDoorSimplexKnownH14
set_option linter.unusedSimpArgs false
set_option linter.unusedVariables false
set_option maxHeartbeats 8000000
set_option maxRecDepth 100000
section
namespace Go.Proofs.YtgjgpdceghjajaaGreatDoor
open Go Go.V Go.Nb
theorem jcj (a b : Nat) (ha : (mg 1000000000 a).length ≤ 100000000) (hb : (mg 1000000000 b).length ≤ 100000000) : Called Tryz.prog 151 [.ints .u32 (mg 1000000000 a), .ints .u32 (mg 1000000000 b)] (.ints .u32 (mg 1000000000 (a * b))) := by
 have hdx := mg_dg (B := 1000000000) (by omega) a
 have hdy := mg_dg (B := 1000000000) (by omega) b
 have hvx := jaD (B := 1000000000) (by omega) a
 have hvy := jaD (B := 1000000000) (by omega) b
 generalize mg 1000000000 a = xs at *
 generalize mg 1000000000 b = ys at *
 have hmn : ((xs.length : Int) + (ys.length : Int)).toNat = xs.length + ys.length := by omega
 refine jaa tbOk 6 ⟨Tryz.func151, rfl, rfl, jhy rfl⟩ ?_
 (conv => whnf)
 refine V.r0 hmn ?_
 refine jah ((0, List.replicate (xs.length + ys.length) 0) : Nat × List Int) (fun s => s.1 ≤ xs.length ∧ s.2.length = xs.length + ys.length ∧ Dg 1000000000 s.2 ∧ (∀ k, s.1 + ys.length ≤ k → s.2.getD k 0 = 0) ∧ val 1000000000 s.2 = val 1000000000 (xs.take s.1) * val 1000000000 ys) (fun s => xs.length - s.1)
  (fun s => [(19, .int .i64 s.1), (5, .osl 16 0 (xs.length + ys.length))]) (fun s => [(16, .arr .u32 s.2)]) ?_ ?_ ?_
 ·exact V.wk
 ·exact ⟨jhz _, by simp, jbP (by omega) _, fun k _ => by simp [List.getD_eq_getElem?_getD, List.getElem?_replicate]; split <;> simp, by simp [val, jdY]⟩
 rintro ⟨i, out⟩ ⟨h1, h2, h3, h4, h5⟩
 dsimp only at h1 h2 h3 h4 h5 ⊢
 have vx := jai 1000000000 xs i
 have bx := jal (by omega) hdx i
 generalize hx0 : xs.getD i 0 = x at *
 (conv => whnf)
 refine V.st ?_
 refine Cnd.split (CondB.mk (fun hq => ?_) (fun hq => ?_))
 ·rw [decide_eq_true_eq] at hq
  refine V.r0 (V.a2 @jhD hx0) ?_
  refine jah ((0, out, 0) : Nat × List Int × Int) (fun s => s.1 ≤ ys.length ∧ s.2.1.length = xs.length + ys.length ∧ Dg 1000000000 s.2.1 ∧ (∀ k, i + ys.length ≤ k → s.2.1.getD k 0 = 0) ∧ (0 ≤ s.2.2 ∧ s.2.2 < 1000000000) ∧ val 1000000000 s.2.1 + ((1000000000 : Nat) : Int) ^ (i + s.1) * s.2.2 = val 1000000000 (xs.take i) * val 1000000000 ys + ((1000000000 : Nat) : Int) ^ i * x * val 1000000000 (ys.take s.1)) (fun s => ys.length - s.1)
   (fun s => [(26, .int .i64 s.1), (8, .int .u64 s.2.2), (5, .osl 16 0 (xs.length + ys.length))]) (fun s => [(16, .arr .u32 s.2.1)]) ?_ ?_ ?_
  ·exact V.wk
  ·exact ⟨jhz _, h2, h3, h4, by simp, by simp [val, h5]⟩
  rintro ⟨j, o, c⟩ ⟨g1, g2, g3, g4, g5, g6⟩
  dsimp only at g1 g2 g3 g4 g5 g6 ⊢
  have vy := jai 1000000000 ys j
  have by' := jal (by omega) hdy j
  have bo := jal (by omega) g3 (i + j)
  generalize hy0 : ys.getD j 0 = y at *
  generalize ho0 : o.getD (i + j) 0 = q at *
  have eij : ((i : Int) + (j : Int)).toNat = i + j := by omega
  have hxy : 0 ≤ x * y ∧ x * y ≤ 999999999 * 999999999 := ⟨jhB (by omega) (by omega), Int.mul_le_mul (by omega) (by omega) (by omega) (by omega)⟩
  have hkj : ((j : Int) + 1) = ((j + 1 : Nat) : Int) := by omega
  have hki : ((i : Int) + 1) = ((i + 1 : Nat) : Int) := by omega
  have ein : ((i : Int) + (ys.length : Int)).toNat = i + ys.length := by omega
  (conv => whnf)
  refine V.st ?_
  refine Cnd.split (CondB.mk (fun hw => ?_) (fun hw => ?_))
  ·rw [decide_eq_true_eq] at hw
   have hm : 0 ≤ (c + (q + x * y)) % 1000000000 ∧ (c + (q + x * y)) % 1000000000 < 1000000000 := ⟨Int.emod_nonneg _ (by omega), jhU _ (by omega)⟩
   have hc9 : 0 ≤ (c + (q + x * y)) / 1000000000 ∧ (c + (q + x * y)) / 1000000000 < 1000000000 := by omega
   have hst := jfX (B := 1000000000) (x := x) (y := y) (q := q) (c := c) (d := (c + (q + x * y)) % 1000000000) (c' := (c + (q + x * y)) / 1000000000) (by omega) ho0 g6 (by have := jhA (c + (q + x * y)) 1000000000; omega)
   rw [← vy] at hst
   refine V.r0 (V.a7 eij @jhC @jhD hx0 hy0 ho0 hkj) ?_
   exact ⟨(j + 1, o.set (i + j) ((c + (q + x * y)) % 1000000000), (c + (q + x * y)) / 1000000000), ⟨by dsimp only; omega, by dsimp only; rw [List.length_set]; exact g2, jdh g3 hm, fun k hk => by dsimp only; rw [jce (by omega)]; exact g4 k hk, ⟨hc9.1, hc9.2⟩, hst⟩, by dsimp only; omega, V.wk⟩
  ·rw [decide_eq_false_iff_not] at hw
   have hj : j = ys.length := by omega
   subst hj
   rw [List.take_length] at g6
   have hst := prod_end (B := 1000000000) (by omega) (g4 _ (jhE _)) g6 hx0
   refine V.r0 (V.a3 ein @jhC hki) ?_
   exact ⟨(i + 1, o.set (i + ys.length) c), ⟨by dsimp only; omega, by dsimp only; rw [List.length_set]; exact g2, jdh g3 ⟨g5.1, g5.2⟩, fun k hk => by dsimp only at hk ⊢; rw [jce (by omega)]; exact g4 k (by omega), hst⟩, by dsimp only; omega, V.wk⟩
 ·rw [decide_eq_false_iff_not] at hq
  rw [List.take_of_length_le (by omega), hvx, hvy, ← jhM] at h5
  have hc := jeQ out h3 (by omega)
  rw [h5, jhD, ← List.take_length (l := out), h2] at hc
  (conv => whnf)
  refine V.st ?_
  repeat ((try ((with_reducible refine .ext ?_); (conv => whnf))); (with_reducible refine jab (r := ?_) ?_ ?_); rotate_left; (focus (first | exact (hc))); (conv => whnf); refine V.st ?_)
  exact Fin.of rfl
theorem short_c (a d : Nat) (ha : (mg 1000000000 a).length ≤ 100000000) (hd0 : 0 < d) (hd1 : d ≤ 1000000000) : Called Tryz.prog 196 [.ints .u32 (mg 1000000000 a), .int .u32 d] (.tup [.ints .u32 (mg 1000000000 (a / d)), .int .u32 (a % d : Nat)]) := by
 have hdx := mg_dg (B := 1000000000) (by omega) a
 have hvx := jaD (B := 1000000000) (by omega) a
 generalize mg 1000000000 a = xs at *
 have hmn : ((xs.length : Int)).toNat = xs.length := by omega
 refine jaa tbOk 6 ⟨Tryz.func196, rfl, rfl, jhy rfl⟩ ?_
 (conv => whnf)
 refine V.r0 hmn ?_
 refine jah ((xs.length, List.replicate xs.length 0, 0) : Nat × List Int × Int) (fun s => s.1 ≤ xs.length ∧ s.2.1.length = xs.length ∧ Dg 1000000000 s.2.1 ∧ (0 ≤ s.2.2 ∧ s.2.2 < d) ∧ val 1000000000 (xs.drop s.1) = val 1000000000 (s.2.1.drop s.1) * d + s.2.2) (fun s => s.1)
  (fun s => [(8, .int .i64 ((s.1 : Int) - 1)), (7, .int .u64 s.2.2), (6, .osl 11 0 xs.length)]) (fun s => [(11, .arr .u32 s.2.1)]) ?_ ?_ ?_
 ·exact V.wk
 ·exact ⟨jhE _, by simp, jbP (by omega) _, ⟨by simp, by dsimp only; omega⟩, by simp [val]⟩
 rintro ⟨k, out, r⟩ ⟨h1, h2, h3, h4, h5⟩
 dsimp only at h1 h2 h3 h4 h5 ⊢
 (conv => whnf)
 refine V.st ?_
 refine Cnd.split (CondB.mk (fun hq => ?_) (fun hq => ?_))
 ·rw [decide_eq_true_eq] at hq
  obtain ⟨j, rfl⟩ : ∃ j, k = j + 1 := ⟨k - 1, by omega⟩
  have hj : j < xs.length := by omega
  have bx := jal (by omega) hdx j
  generalize hx0 : xs.getD j 0 = x at *
  have e2 : (((j + 1 : Nat) : Int) - 1) = (j : Int) := by omega
  have hb : 0 ≤ (r * 1000000000 + x) / (d : Int) ∧ (r * 1000000000 + x) / (d : Int) < 1000000000 ∧ 0 ≤ (r * 1000000000 + x) % (d : Int) ∧ (r * 1000000000 + x) % (d : Int) < d := jee (B := 1000000000) (by omega : (0 : Int) < d) h4 bx
  have hst := jed (B := 1000000000) hj (by omega) hx0 h5 (t := r * 1000000000 + x) rfl
  have hr0 : 0 ≤ r * 1000000000 + x := by omega
  refine V.r0 (V.a4 e2 @jhC @jhD hx0) ?_
  exact ⟨(j, out.set j ((r * 1000000000 + x) / d), (r * 1000000000 + x) % d), ⟨by dsimp only; omega, by dsimp only; rw [List.length_set]; exact h2, jdh h3 ⟨hb.1, hb.2.1⟩, ⟨hb.2.2.1, hb.2.2.2⟩, hst⟩, by dsimp only; omega, V.wk⟩
 ·rw [decide_eq_false_iff_not] at hq
  obtain rfl : k = 0 := by omega
  rw [List.drop_zero, List.drop_zero, hvx] at h5
  have hvq := jam h3
  obtain ⟨w, hw⟩ : ∃ w : Nat, val 1000000000 out = w := ⟨(val 1000000000 out).toNat, by omega⟩
  obtain ⟨r', rfl⟩ : ∃ r' : Nat, r = r' := ⟨r.toNat, by omega⟩
  rw [hw, ← jhM] at h5
  have h6 : a = w * d + r' := by omega
  have e8 : a / d = w := by rw [h6, Nat.add_comm, Nat.add_mul_div_right _ _ hd0, Nat.div_eq_of_lt (by omega), jhC]
  have e9 : a % d = r' := by rw [h6, Nat.add_comm, Nat.add_mul_mod_self_right, jhH (by omega)]
  have hc := jeQ out h3 (by omega)
  rw [hw, jhD, ← List.take_length (l := out), h2] at hc
  (conv => whnf)
  refine V.st ?_
  repeat ((try ((with_reducible refine .ext ?_); (conv => whnf))); (with_reducible refine jab (r := ?_) ?_ ?_); rotate_left; (focus (first | exact (hc))); (conv => whnf); refine V.st ?_)
  exact Fin.of (by rw [e8, e9])
theorem length_c (n : Nat) (hn : (mg 1000000000 n).length ≤ 100000000) : Called Tryz.prog 167 [.ints .u32 (mg 1000000000 n)] (.int .i64 (dec n).length) := by
 have hz := jcW n
 have hdx := mg_dg (B := 1000000000) (by omega) n
 have hvx := jaD (B := 1000000000) (by omega) n
 have hlx := jdr (B := 1000000000) (n := n) (by omega)
 have hnil := jcr (B := 1000000000) (n := n) (by omega)
 generalize mg 1000000000 n = xs at *
 refine jaa tbOk 6 ⟨Tryz.func167, rfl, rfl, jhy rfl⟩ ?_
 (conv => whnf)
 refine V.st ?_
 repeat ((try ((with_reducible refine .ext ?_); (conv => whnf))); (with_reducible refine jab (r := ?_) ?_ ?_); rotate_left; (focus (first | exact (hz))); (conv => whnf); refine V.st ?_)
 refine Cnd.split (CondB.mk (fun hq => ?_) (fun hq => ?_))
 ·rw [decide_eq_true_eq] at hq
  subst hq
  (conv => whnf)
  refine V.st ?_
  exact Fin.of rfl
 ·rw [decide_eq_false_iff_not] at hq
  obtain ⟨j, hj⟩ : ∃ j, xs.length = j + 1 := ⟨xs.length - 1, by
   have : xs ≠ [] := fun e => hq (hnil.1 e)
   have := List.length_pos_iff.2 this
   omega⟩
  have bx := jal (by omega) hdx j
  have hd := jbI (B := 1000000000) (l := xs) (k := j) (by omega)
  have hnil2 : xs.drop (j + 1) = [] := List.drop_eq_nil_of_le (by omega)
  rw [hnil2] at hd
  have hsp := jbB 1000000000 xs j (by omega)
  have hlo := jbV (jbc hdx j)
  have hlo0 := jam (jbc hdx j)
  rw [List.length_take, Nat.min_eq_left (by omega)] at hlo
  have hx1 : xs.getD j 0 ≠ 0 := by
   refine hlx _ ?_
   rw [List.getLast?_eq_getElem?, hj, List.getD_eq_getElem?_getD, show j + 1 - 1 = j by omega, List.getElem?_eq_getElem (by omega)]; rfl
  generalize hx0 : xs.getD j 0 = x at *
  obtain ⟨d, rfl⟩ : ∃ d : Nat, x = d := ⟨x.toNat, by omega⟩
  rw [hd, hvx] at hsp
  obtain ⟨w, hw⟩ : ∃ w : Nat, val 1000000000 (xs.take j) = w := ⟨(val 1000000000 (xs.take j)).toNat, by omega⟩
  have hnw : n = d * 10 ^ (9 * j) + w := by
   have e : ((10 ^ (9 * j) : Nat) : Int) = ((1000000000 : Nat) : Int) ^ j := by rw [Nat.pow_mul, jhW]
   simp only [val, Int.mul_zero, jhV] at hsp
   rw [hw, ← e, ← jhM, jhG] at hsp
   omega
  have hwl : w < 10 ^ (9 * j) := by
   rw [Nat.pow_mul]
   rw [hw, ← jhW] at hlo
   exact_mod_cast hlo
  have hdp := jg3 (a := d) (by omega) (9 * j) w hwl
  rw [← hnw] at hdp
  have hlen : (dec n).length = (dec d).length + 9 * j := by rw [hdp, List.length_append, jdp]
  have hi := itoa_c (d : Int)
  have hdz : decZ (d : Int) = dec d := by unfold decZ; rw [if_neg (by omega), jhR]
  rw [hdz] at hi
  have e1 : ((xs.length : Int) - 1) = (j : Int) := by omega
  have hdl := jeC d 9 (by omega) (by omega)
  refine V.r1 (V.a3 e1 @jhD hx0) hi ?_
  exact Fin.of (by rw [hlen]; congr 1; omega)
end Go.Proofs.YtgjgpdceghjajaaGreatDoor
end
section
namespace Go.Nb
structure Kn (B top v2 vr u2 ur head U V P : Int) : Prop where
 hB : 2 ≤ B
 hP : 1 ≤ P
 ht : 1 ≤ top
 hv : V = (top * B + v2) * P + vr
 hu : U = (head * B + u2) * P + ur
 v20 : 0 ≤ v2
 v2B : v2 < B
 u20 : 0 ≤ u2
 u2B : u2 < B
 vr0 : 0 ≤ vr
 vrP : vr < P
 ur0 : 0 ≤ ur
 urP : ur < P
 hh : 0 ≤ head
 htB : top < B
 lt : U < B * V
section
variable {B top v2 vr u2 ur head U V P : Int}
theorem Kn.vpos (K : Kn B top v2 vr u2 ur head U V P) : 0 < V := by
 have h1 : 0 ≤ top * B := jhB (by have := K.ht; omega) (by have := K.hB; omega)
 have h2 : 1 * 2 ≤ top * B := Int.mul_le_mul K.ht K.hB (by omega) (by have := K.ht; omega)
 have h3 : 1 * 1 ≤ (top * B + v2) * P := Int.mul_le_mul (by have := K.v20; omega) K.hP (by omega) (by have := K.v20; omega)
 have := K.hv
 have := K.vr0
 omega
theorem Kn.ulo (K : Kn B top v2 vr u2 ur head U V P) : head * B * P ≤ U ∧ U < (head + 1) * B * P := by
 have e : (head * B + u2) * P = head * B * P + u2 * P := jhX _ _ _
 have e2 : (head + 1) * B * P = head * B * P + B * P := by rw [jhX, jhY, jhX]
 have h1 : 0 ≤ u2 * P := jhB K.u20 (by have := K.hP; omega)
 have h2 : (u2 + 1) * P ≤ B * P := jhI (by have := K.u2B; omega) (by have := K.hP; omega)
 rw [jhX, jhY] at h2
 have := K.hu
 have := K.ur0
 have := K.urP
 omega
theorem Kn.vlo (K : Kn B top v2 vr u2 ur head U V P) : top * B * P ≤ V ∧ V < (top + 1) * B * P := by
 have e : (top * B + v2) * P = top * B * P + v2 * P := jhX _ _ _
 have e2 : (top + 1) * B * P = top * B * P + B * P := by rw [jhX, jhY, jhX]
 have h1 : 0 ≤ v2 * P := jhB K.v20 (by have := K.hP; omega)
 have h2 : (v2 + 1) * P ≤ B * P := jhI (by have := K.v2B; omega) (by have := K.hP; omega)
 rw [jhX, jhY] at h2
 have := K.hv
 have := K.vr0
 have := K.vrP
 omega
theorem Kn.bp (K : Kn B top v2 vr u2 ur head U V P) : 0 < B * P := Int.mul_pos (by have := K.hB; omega) (by have := K.hP; omega)
theorem Kn.qlt (K : Kn B top v2 vr u2 ur head U V P) {Q : Int} (h : Q * V ≤ U) : Q < B :=
 Int.lt_of_mul_lt_mul_right (Int.lt_of_le_of_lt h K.lt) (Int.le_of_lt K.vpos)
theorem Kn.init (K : Kn B top v2 vr u2 ur head U V P) {Q : Int} (hQ : 0 ≤ Q) (h : Q * V ≤ U) : Q ≤ head / top := by
 have ht := K.ht
 refine (Int.le_ediv_iff_mul_le (by omega)).2 ?_
 rcases Int.lt_or_le head (Q * top) with hc | hc
 ·exfalso
  have h1 : (head + 1) * (B * P) ≤ Q * top * (B * P) := jhI (by omega) (Int.le_of_lt K.bp)
  have h2 : Q * (top * B * P) ≤ Q * V := jhQ K.vlo.1 hQ
  have h3 := K.ulo.2
  have e1 : (head + 1) * (B * P) = (head + 1) * B * P := (jhP _ _ _).symm
  have e2 : Q * top * (B * P) = Q * (top * B * P) := by simp only [jhP]
  omega
 ·exact hc
theorem Kn.step (K : Kn B top v2 vr u2 ur head U V P) {Q q r : Int} (hQ : 0 ≤ Q) (h : Q * V ≤ U) (hq : Q ≤ q) (hr : head = q * top + r) (hc : B ≤ q ∨ r * B + u2 < q * v2) : Q ≤ q - 1 := by
 rcases hc with hc | hc
 ·have := K.qlt h
  omega
 ·have hq0 : 0 ≤ q := by omega
  have h1 : head * B + u2 + 1 ≤ q * (top * B + v2) := by
   rw [hr, jhX, jhN, jhP]
   omega
  have h2 : (head * B + u2 + 1) * P ≤ q * (top * B + v2) * P := jhI h1 (by have := K.hP; omega)
  rw [jhX, jhY] at h2
  have h3 : q * ((top * B + v2) * P) ≤ q * V := jhQ (by have := K.hv; have := K.vr0; omega) hq0
  rw [← jhP] at h3
  have h4 : Q * V < q * V := by
   have := K.hu
   have := K.urP
   omega
  have := Int.lt_of_mul_lt_mul_right h4 (Int.le_of_lt K.vpos)
  omega
theorem Kn.out1 (K : Kn B top v2 vr u2 ur head U V P) {q r : Int} (hq0 : 0 ≤ q) (hr : head = q * top + r) (h1 : q < B) (h2 : q * v2 ≤ r * B + u2) : (q - 1) * V ≤ U := by
 have h3 : q * (top * B + v2) ≤ head * B + u2 := by
  rw [hr, jhX, jhN, jhP]
  omega
 have h4 : q * (top * B + v2) * P ≤ (head * B + u2) * P := jhI h3 (by have := K.hP; omega)
 have e1 : q * V = q * (top * B + v2) * P + q * vr := by rw [K.hv, jhN, jhP]
 have h5 : q * vr ≤ B * P := by
  have h6 : q * vr ≤ B * vr := jhI (by omega) K.vr0
  have h7 : B * vr ≤ B * P := jhQ (by have := K.vrP; omega) (by have := K.hB; omega)
  omega
 have h8 : 1 * (B * P) ≤ top * (B * P) := jhI K.ht (Int.le_of_lt K.bp)
 have e2 : top * (B * P) = top * B * P := (jhP _ _ _).symm
 have h9 := K.vlo.1
 have := K.hu
 have := K.ur0
 rw [Int.sub_mul, jhY]
 omega
theorem Kn.out2 (K : Kn B top v2 vr u2 ur head U V P) {q r : Int} (hq0 : 0 ≤ q) (hr : head = q * top + r) (h1 : B ≤ r) : q < B ∧ (q - 1) * V ≤ U := by
 have hlo := K.ulo
 have vlo := K.vlo
 have hbp := K.bp
 -- the head is at most top * B + B - 1
 have h2 : head < (top + 1) * B := by
  rcases Int.lt_or_le head ((top + 1) * B) with h | h
  ·exact h
  ·exfalso
   have h3 : (top + 1) * B * (B * P) ≤ head * (B * P) := jhI h (Int.le_of_lt hbp)
   have h4 : B * V < B * ((top + 1) * B * P) := Int.mul_lt_mul_of_pos_left vlo.2 (by have := K.hB; omega)
   have e1 : (top + 1) * B * (B * P) = B * ((top + 1) * B * P) := by ac_rfl
   have e2 : head * (B * P) = head * B * P := (jhP _ _ _).symm
   have := K.lt
   omega
 rw [jhX, jhY] at h2
 have hqB : q < B := by
  rcases Int.lt_or_le q B with h | h
  ·exact h
  ·exfalso
   have h3 : B * top ≤ q * top := jhI h (by have := K.ht; omega)
   rw [jhO B top] at h3
   omega
 refine ⟨hqB, ?_⟩
 have h5 : q * top ≤ head - B := by omega
 have h6 : q * top * (B * P) ≤ (head - B) * (B * P) := jhI h5 (Int.le_of_lt hbp)
 have h7 : q * V ≤ q * ((top + 1) * B * P) := jhQ (Int.le_of_lt vlo.2) hq0
 have h8 : q * (B * P) ≤ B * (B * P) := jhI (Int.le_of_lt hqB) (Int.le_of_lt hbp)
 have e1 : q * ((top + 1) * B * P) = q * top * (B * P) + q * (B * P) := by
  rw [jhX, jhY, jhX, jhN]
  simp only [jhP]
 rw [Int.sub_mul] at h6
 have e2 : head * (B * P) = head * B * P := (jhP _ _ _).symm
 have := K.vpos
 rw [Int.sub_mul, jhY]
 omega
end
end Go.Nb
end
section
namespace Go.Proofs.YtgjgpdceghjajaaGreatDoor
open Go Go.V Go.Nb
theorem red_a {P W V q c b mid wlo un : Int} (hP : 0 < P) (hV0 : 0 < V) (hVP : V ≤ P) (hW : W = wlo + un * P) (hmid : mid - (c + b) * P = wlo - q * V) (hm0 : 0 ≤ mid) (hq : W / V ≤ q) (h : c + b ≤ un) : q = W / V ∧ mid = W % V := by
 have h1 := jhA W V
 have h2 := jhU W hV0
 have h3 : W - q * V = mid + (un - (c + b)) * P := by rw [Int.sub_mul]; omega
 have h4 : 0 ≤ (q - W / V) * V := jhB (by omega) (by omega)
 rw [Int.sub_mul, jhO (W / V)] at h4
 have h5 : un - (c + b) = 0 := by
  rcases Int.lt_or_le 0 (un - (c + b)) with h6 | h6
  ·have h7 : 1 * P ≤ (un - (c + b)) * P := jhI (by omega) (by omega)
   omega
  ·omega
 rw [h5, Int.zero_mul, jhV] at h3
 have h8 : q ≤ W / V := (Int.le_ediv_iff_mul_le hV0).2 (by omega)
 have h9 : q = W / V := by omega
 refine ⟨h9, ?_⟩
 rw [h9, jhO] at h3
 omega
theorem red_b {P W V q c b mid mid2 over wlo un : Int} (hP : 0 < P) (hV0 : 0 < V) (hVP : V ≤ P) (hW : W = wlo + un * P) (hmid : mid - (c + b) * P = wlo - q * V) (hm1 : mid < P) (hq1 : (q - 1) * V ≤ W) (h : un < c + b)
  (h2 : mid2 + over * P = mid + V) (h20 : 0 ≤ mid2) (h21 : mid2 < P) : q - 1 = W / V ∧ mid2 = W % V := by
 have h1 := jhA W V
 have h3 := jhU W hV0
 have h30 := Int.emod_nonneg W (by omega : V ≠ 0)
 have h4 : W - q * V = mid + (un - (c + b)) * P := by rw [Int.sub_mul]; omega
 have h5 : 1 * P ≤ (c + b - un) * P := jhI (by omega) (by omega)
 have h6 : (un - (c + b)) * P = -((c + b - un) * P) := by rw [← Int.neg_mul]; congr 1; omega
 have h7 : q - 1 ≤ W / V := (Int.le_ediv_iff_mul_le hV0).2 hq1
 have h8 : W / V < q := (Int.ediv_lt_iff_lt_mul hV0).2 (by omega)
 have h9 : q - 1 = W / V := by omega
 refine ⟨h9, ?_⟩
 have e1 : W % V = mid2 + (over + un - (c + b)) * P := by
  have e2 : W % V = W - (q - 1) * V := by rw [h9, jhO]; omega
  rw [e2, Int.sub_mul, jhY]
  have e3 : (over + un - (c + b)) * P = over * P + (un - (c + b)) * P := by rw [← jhX]; congr 1; omega
  rw [e3]; omega
 have e4 : over + un - (c + b) = 0 := by
  rcases Int.lt_trichotomy (over + un - (c + b)) 0 with g | g | g
  ·have : (over + un - (c + b)) * P ≤ (-1) * P := jhI (by omega) (by omega)
   omega
  ·exact g
  ·have : 1 * P ≤ (over + un - (c + b)) * P := jhI (by omega) (by omega)
   omega
 rw [e4, Int.zero_mul, jhV] at e1
 exact e1.symm
theorem red_step {B : Nat} {mid ul vl : List Int} {c b u d r c' b' q : Int} {i : Nat} (hi : mid.length = i) (h : val B mid - (c + b) * (B : Int) ^ i = val B ul - q * val B vl) (hs : r - B * (c' + b') = u - q * d - (c + b)) :
  val B (mid ++ [r]) - (c' + b') * (B : Int) ^ (i + 1) = (val B ul + (B : Int) ^ i * u) - q * (val B vl + (B : Int) ^ i * d) := by
 rw [jaN, hi, Int.pow_succ, jhN]
 generalize (B : Int) ^ i = P at *
 have e1 : P * (r - B * (c' + b')) = P * r - (c' + b') * (P * B) := by rw [Int.mul_sub]; congr 1; ac_rfl
 have e2 : P * (u - q * d - (c + b)) = P * u - q * (P * d) - (c + b) * P := by rw [Int.mul_sub, Int.mul_sub]; congr 1; congr 1; ac_rfl; ac_rfl
 rw [hs, e2] at e1
 omega
theorem jfx {u A mid : List Int} {k : Nat} {r : Int} (hk : A.length + mid.length = k) (h : k < u.length) : (A ++ mid ++ u.drop k).set k r = A ++ (mid ++ [r]) ++ u.drop (k + 1) := by
 have e : (A ++ mid).length = k := by rw [List.length_append]; exact hk
 rw [List.set_append_right _ _ (by omega), e, Nat.sub_self, List.drop_eq_getElem_cons h, List.set_cons_zero]
 simp
theorem mid_get {u A mid : List Int} {k : Nat} (hk : A.length + mid.length = k) : (A ++ mid ++ u.drop k).getD k 0 = u.getD k 0 := by
 have e : (A ++ mid).length = k := by rw [List.length_append]; exact hk
 rw [List.getD_eq_getElem?_getD, List.getElem?_append_right (by omega), e, Nat.sub_self, List.getElem?_drop, List.getD_eq_getElem?_getD]
 rfl
theorem mid_drop {u A mid : List Int} {k : Nat} (hk : A.length + mid.length = k) : (A ++ mid ++ u.drop k).drop k = u.drop k := by
 have e : (A ++ mid).length = k := by rw [List.length_append]; exact hk
 rw [List.drop_append, e, Nat.sub_self, List.drop_of_length_le (by omega)]
 simp
theorem getD_drop {u : List Int} {j i : Nat} : (u.drop j).getD i 0 = u.getD (j + i) 0 := by
 rw [List.getD_eq_getElem?_getD, List.getElem?_drop, List.getD_eq_getElem?_getD]
theorem kn_of {B p j : Nat} {u v : List Int} {W V : Int} (hB : 2 ≤ B) (hu : Dg B u) (hv : Dg B v) (hlv : v.length = p + 2) (hV : val B v = V) (hW : val B (u.drop j) = W) (hz : val B (u.drop (j + (p + 2) + 1)) = 0) (htop : 1 ≤ v.getD (p + 1) 0) (hlt : W < B * V) :
  Kn B (v.getD (p + 1) 0) (v.getD p 0) (val B (v.take p)) (u.getD (j + p) 0) (val B ((u.drop j).take p)) (u.getD (j + (p + 2)) 0 * B + u.getD (j + (p + 1)) 0) W V ((B : Int) ^ p) := by
 have e1 : V = (v.getD (p + 1) 0 * B + v.getD p 0) * (B : Int) ^ p + val B (v.take p) := by
  rw [← hV]
  conv => lhs; rw [← List.take_length (l := v), hlv, jai, jai]
  rw [Int.pow_succ]
  generalize (B : Int) ^ p = P
  rw [jhX]
  have e : v.getD (p + 1) 0 * B * P = P * B * v.getD (p + 1) 0 := by ac_rfl
  have e' : v.getD p 0 * P = P * v.getD p 0 := jhO _ _
  omega
 have e2 : W = ((u.getD (j + (p + 2)) 0 * B + u.getD (j + (p + 1)) 0) * B + u.getD (j + p) 0) * (B : Int) ^ p + val B ((u.drop j).take p) := by
  have h1 : val B (u.drop j) = val B ((u.drop j).take p) + (B : Int) ^ p * val B (u.drop (j + p)) := by
   rcases Nat.le_total p (u.drop j).length with h | h
   ·rw [jbB B (u.drop j) p h, List.drop_drop]
   ·have hz2 : u.drop (j + p) = [] := List.drop_eq_nil_of_le (by rw [List.length_drop] at h; omega)
    rw [List.take_of_length_le h, hz2]; simp [val]
  rw [← hW, h1, jaX B u (j + p), jaX B u (j + p + 1), jaX B u (j + p + 1 + 1)]
  rw [show j + p + 1 + 1 + 1 = j + (p + 2) + 1 by omega, hz, show j + p + 1 + 1 = j + (p + 2) by omega, show j + p + 1 = j + (p + 1) by omega]
  rw [Int.mul_zero, jhV]
  generalize (B : Int) ^ p = P
  rw [Int.add_comm, jhO P]
  congr 2
  rw [jhO (B : Int), jhO (B : Int), Int.add_comm, Int.add_comm (u.getD (j + (p + 1)) 0)]
 have b1 := jal (by omega) hv (p + 1)
 have b2 := jal (by omega) hv p
 have b3 := jal (by omega) hu (j + p)
 have b4 := jal (by omega) hu (j + (p + 1))
 have b5 := jal (by omega) hu (j + (p + 2))
 have l1 := jb5 hB hv p
 have l2 := jb5 hB (jbj hu j) p
 have l3 := jam (jbc hv p)
 have l4 := jam (jbc (jbj hu j) p)
 have l5 := jdM hB p
 have l6 : 0 ≤ u.getD (j + (p + 2)) 0 * (B : Int) := jhB b5.1 (by omega)
 exact { hB := by omega, hP := by omega, ht := htop, hv := e1, hu := e2, v20 := b2.1, v2B := b2.2, u20 := b3.1, u2B := b3.2, vr0 := l3, vrP := l1, ur0 := l4, urP := l2, hh := by omega, htB := b1.2, lt := hlt }
theorem div_inv {B p j : Nat} {u q mid : List Int} {Qd W VV M : Int} (hB : 2 ≤ B) (hj : j < q.length) (hju : j + (p + 2) < u.length) (hmid : mid.length = p + 2) (hdu : Dg B u) (hdm : Dg B mid) (h6 : val B (u.drop (j + (p + 2) + 1)) = 0)
  (hW : val B (u.drop j) = W) (hV0 : 0 < VV) (hm : val B mid = W % VV) (hQ : Qd = W / VV) (h8 : M = val B (q.drop (j + 1)) * (B : Int) ^ (j + 1) * VV + val B u) :
  (u.take j ++ (mid ++ [0]) ++ u.drop (j + (p + 2) + 1)).length = u.length ∧ Dg B (u.take j ++ (mid ++ [0]) ++ u.drop (j + (p + 2) + 1)) ∧ val B ((u.take j ++ (mid ++ [0]) ++ u.drop (j + (p + 2) + 1)).drop (j + (p + 2))) = 0 ∧
  val B ((u.take j ++ (mid ++ [0]) ++ u.drop (j + (p + 2) + 1)).drop j) < VV ∧ M = val B ((q.set j Qd).drop j) * (B : Int) ^ j * VV + val B (u.take j ++ (mid ++ [0]) ++ u.drop (j + (p + 2) + 1)) := by
 have hA : (u.take j).length = j := by rw [List.length_take]; omega
 have hl : (u.take j ++ (mid ++ [0]) ++ u.drop (j + (p + 2) + 1)).length = u.length := by
  simp only [List.length_append, List.length_take, List.length_drop, List.length_singleton, hmid]; omega
 have hd : Dg B (u.take j ++ (mid ++ [0]) ++ u.drop (j + (p + 2) + 1)) := jaj (jaj (jbc hdu _) (jaj hdm (jas (by omega)))) (jbj hdu _)
 have hz : ∀ P : Int, val B (mid ++ [0] ++ u.drop (j + (p + 2) + 1)) = val B mid := fun _ => by
  rw [jbv, h6, Int.mul_zero, jhV, jaN, Int.mul_zero, jhV]
 have e1 : (u.take j ++ (mid ++ [0]) ++ u.drop (j + (p + 2) + 1)).drop j = mid ++ [0] ++ u.drop (j + (p + 2) + 1) := by
  rw [List.append_assoc, List.drop_append, hA, Nat.sub_self, List.drop_of_length_le (by omega)]; rfl
 have e2 : (u.take j ++ (mid ++ [0]) ++ u.drop (j + (p + 2) + 1)).drop (j + (p + 2)) = [0] ++ u.drop (j + (p + 2) + 1) := by
  rw [← List.drop_drop, e1, List.append_assoc, List.drop_append, hmid, Nat.sub_self, List.drop_of_length_le (by omega)]; rfl
 have hr := jhU W hV0
 refine ⟨hl, hd, ?_, ?_, ?_⟩
 ·rw [e2, jbv, h6]; simp [val]
 ·rw [e1, hz 0, hm]; exact hr
 ·have v1 := jbB B u j (by omega)
  rw [hW] at v1
  have v2 : val B (u.take j ++ (mid ++ [0]) ++ u.drop (j + (p + 2) + 1)) = val B (u.take j) + (B : Int) ^ j * (W % VV) := by
   rw [List.append_assoc, jbv, hA, hz 0, hm]
  have v3 := jbI (B := B) (l := q.set j Qd) (k := j) (by rw [List.length_set]; exact hj)
  rw [jeo hj, jew (l := q) (i := j) (k := j + 1) (by omega)] at v3
  rw [h8, v2, v3, v1, hQ, Int.pow_succ]
  have v4 := jhA W VV
  generalize W / VV = Q at *
  generalize W % VV = R at *
  generalize (B : Int) ^ j = P
  generalize val B (q.drop (j + 1)) = q1
  rw [← v4, jhN, jhX, jhX]
  have w1 : q1 * (P * (B : Int)) * VV = (B : Int) * q1 * P * VV := by ac_rfl
  have w2 : P * (VV * Q) = Q * P * VV := by ac_rfl
  rw [w1, w2]
  omega
end Go.Proofs.YtgjgpdceghjajaaGreatDoor
end
