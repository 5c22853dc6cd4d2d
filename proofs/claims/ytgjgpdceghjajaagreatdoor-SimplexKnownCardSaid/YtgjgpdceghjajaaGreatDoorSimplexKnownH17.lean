/- What some functions of the program answer at values that mean given lists, texts and numbers, each proved of the program's own code: part 17. Conditions: those that each theorem names. -/
import Derived.Test.YtgjgpdceghjajaaGreatDoorSimplexKnownH16
import Derived.Test.YtgjgpdceghjajaaGreatDoorSimplexKnownH14
set_option linter.unusedSimpArgs false
set_option linter.unusedVariables false
set_option maxHeartbeats 8000000
set_option maxRecDepth 100000
section
namespace Go.Proofs.YtgjgpdceghjajaaGreatDoor
open Go Go.V Go.Nb
theorem jfX {B : Nat} {o : List Int} {i j : Nat} {c q x y U Y d c' : Int} (hlt : i + j < o.length) (hq : o.getD (i + j) 0 = q) (h : val B o + (B : Int) ^ (i + j) * c = U + (B : Int) ^ i * x * Y) (hs : d + c' * B = c + q + x * y) :
  val B (o.set (i + j) d) + (B : Int) ^ (i + (j + 1)) * c' = U + (B : Int) ^ i * x * (Y + (B : Int) ^ j * y) := by
 rw [jgl B d o (i + j) hlt, hq, ← Nat.add_assoc, Int.pow_succ]
 have e0 : (B : Int) ^ i * x * (Y + (B : Int) ^ j * y) = (B : Int) ^ i * x * Y + (B : Int) ^ (i + j) * (x * y) := by
  rw [jhN, Int.pow_add]; congr 1; ac_rfl
 rw [e0]
 generalize (B : Int) ^ (i + j) = P at *
 have e1 : P * (d + c' * B) = P * d + P * B * c' := by rw [jhN]; congr 1; ac_rfl
 rw [hs] at e1
 have e2 : P * (c + q + x * y) = P * c + P * q + P * (x * y) := by rw [jhN, jhN]
 rw [Int.mul_sub]
 omega
theorem prod_end {B : Nat} {o xs : List Int} {i n : Nat} {c x YS : Int} (hlt : i + n < o.length) (hq : o.getD (i + n) 0 = 0) (h : val B o + (B : Int) ^ (i + n) * c = val B (xs.take i) * YS + (B : Int) ^ i * x * YS) (hx : xs.getD i 0 = x) :
  val B (o.set (i + n) c) = val B (xs.take (i + 1)) * YS := by
 rw [jgl B c o (i + n) hlt, hq, jai, hx, jhX, Int.sub_zero]
 exact h
theorem jce {l : List Int} {i k : Nat} {d : Int} (h : i ≠ k) : (l.set i d).getD k 0 = l.getD k 0 := by
 simp [List.getD_eq_getElem?_getD, List.getElem?_set, h]
theorem jeo {l : List Int} {i : Nat} {d : Int} (h : i < l.length) : (l.set i d).getD i 0 = d := by
 simp [List.getD_eq_getElem?_getD, List.getElem?_set, h]
theorem jbI {B : Nat} {l : List Int} {k : Nat} (h : k < l.length) : val B (l.drop k) = l.getD k 0 + B * val B (l.drop (k + 1)) := by
 rw [List.drop_eq_getElem_cons h, val]
 congr 1
 simp [List.getD_eq_getElem?_getD, h]
theorem jew {l : List Int} {i k : Nat} {d : Int} (h : i < k) : (l.set i d).drop k = l.drop k := by
 rw [List.drop_set_of_lt h]
theorem jed {B : Nat} {xs out : List Int} {k : Nat} {d r x t : Int} (hk : k < xs.length) (hl : k < out.length) (hx : xs.getD k 0 = x) (h : val B (xs.drop (k + 1)) = val B (out.drop (k + 1)) * d + r) (ht : t = r * B + x) :
  val B (xs.drop k) = val B ((out.set k (t / d)).drop k) * d + t % d := by
 have e0 := jbI (B := B) (l := out.set k (t / d)) (k := k) (by rw [List.length_set]; exact hl)
 rw [jeo hl, jew (l := out) (i := k) (k := k + 1) (by omega)] at e0
 rw [jbI hk, e0, hx, h]
 have := jhA t d
 have e1 : (t / d + (B : Int) * val B (out.drop (k + 1))) * d = d * (t / d) + B * (val B (out.drop (k + 1)) * d) := by rw [jhX]; congr 1 <;> ac_rfl
 rw [e1, jhN]
 have e2 : (B : Int) * r = r * B := jhO _ _
 omega
theorem jee {B : Nat} {d r x : Int} (hd : 0 < d) (hr : 0 ≤ r ∧ r < d) (hx : 0 ≤ x ∧ x < B) : 0 ≤ (r * B + x) / d ∧ (r * B + x) / d < B ∧ 0 ≤ (r * B + x) % d ∧ (r * B + x) % d < d := by
 have h0 : 0 ≤ r * (B : Int) := jhB hr.1 (by omega)
 refine ⟨Int.ediv_nonneg (by omega) (by omega), ?_, Int.emod_nonneg _ (by omega), jhU _ hd⟩
 refine Int.ediv_lt_of_lt_mul hd ?_
 have h1 : (r + 1) * (B : Int) ≤ d * B := jhI (by omega) (by omega)
 rw [jhX, jhY] at h1
 rw [jhO d (B : Int)] at h1
 omega
theorem order_c (xs ys : List Int) (ha : xs.length ≤ 100000000) (hb : ys.length ≤ 100000000) (hdx : Dg 10000 xs) (hdy : Dg 10000 ys) : Called Tryz.prog 158 [.ints .i64 xs, .ints .i64 ys] (.int .i64 (ordV xs ys)) := by
 refine jaa tbOk 6 ⟨Tryz.func158, rfl, rfl, jhy rfl⟩ ?_
 (conv => whnf)
 refine V.st ?_
 refine Cnd.split (CondB.mk (fun hq => ?_) (fun hq => ?_))
 ·rw [decide_eq_true_eq] at hq
  (conv => whnf)
  refine V.st ?_
  exact Fin.of (by unfold ordV; rw [if_neg (by omega)])
 ·rw [decide_eq_false_iff_not] at hq
  have hq' : xs.length = ys.length := by omega
  (conv => whnf)
  refine V.st ?_
  refine jah (xs.length) (fun k => k ≤ xs.length ∧ ordR xs ys k = ordR xs ys xs.length) (fun k => k) (fun k => [(5, .int .i64 ((k : Int) - 1))]) (fun k => []) ?_ ?_ ?_
  ·exact V.wk
  ·exact ⟨jhE _, rfl⟩
  intro k hk
  have bx := jal (by omega) hdx (k - 1)
  have by' := jal (by omega) hdy (k - 1)
  (conv => whnf)
  refine V.st ?_
  refine Cnd.split (CondB.mk (fun hz => ?_) (fun hz => ?_))
  ·rw [decide_eq_true_eq] at hz
   (conv => whnf)
   refine V.st ?_
   refine ⟨(.take 0 (.take 1 (.take 2 (.take 3 (.take 4 (.take 5 (.take 6 (.take 7 (.take 8 (.done)))))))))), [], ⟨by kernel_rfl, by kernel_rfl, by kernel_rfl, by kernel_rfl⟩, .go (jag ?_)⟩
   (conv => whnf)
   refine V.st ?_
   have hk0 : 0 < k := by omega
   obtain ⟨j, rfl⟩ : ∃ j, k = j + 1 := ⟨k - 1, by omega⟩
   have e1 : ((((j + 1 : Nat) : Int) - 1).toNat) = j := by omega
   have e2 : (((j + 1 : Nat) : Int) - 1) = (j : Int) := by omega
   have hr := hk.2
   rw [ordR] at hr
   refine Cnd.split (CondB.mk (fun hn => ?_) (fun hn => ?_))
   ·rw [decide_eq_true_eq, e1] at hn
    (conv => whnf)
    refine V.st ?_
    refine ⟨(.take 0 (.take 1 (.take 2 (.take 3 (.take 4 (.take 5 (.take 6 (.take 7 (.take 8 (.take 9 (.done))))))))))), [], ⟨by kernel_rfl, by kernel_rfl, by kernel_rfl, by kernel_rfl⟩, .go (jag ?_)⟩
    (conv => whnf)
    refine V.st ?_
    rw [Nat.add_sub_cancel] at bx by'
    rw [e1]
    generalize xs.getD j 0 = x at *
    generalize ys.getD j 0 = y at *
    refine And.intro (fun _ _ _ => ?_) ?_
    ·refine ⟨?_, ?_⟩ <;> simp only [V.lo, V.hi] <;> omega
    (conv => whnf)
    refine V.st ?_
    exact Fin.of (by unfold ordV; rw [if_pos hq', ← hr, if_neg hn])
   ·rw [decide_eq_false_iff_not, e1] at hn
    rw [if_pos (by omega)] at hr
    refine V.r0 e2 ?_
    exact ⟨j, ⟨by omega, hr⟩, by omega, V.wk⟩
  ·rw [decide_eq_false_iff_not] at hz
   have hk0 : k = 0 := by omega
   subst hk0
   (conv => whnf)
   refine V.st ?_
   exact Fin.of (by unfold ordV; rw [if_pos hq', ← hk.2]; rfl)
theorem jfW (xs ys : List Int) (ha : xs.length ≤ 100000000) (hb : ys.length ≤ 100000000) (hdx : Dg 10000 xs) (hdy : ∀ j, 0 ≤ ys.getD j 0 ∧ ys.getD j 0 ≤ 10000 ∧ (0 < j → ys.getD j 0 < 10000)) : Called Tryz.prog 143 [.ints .i64 xs, .ints .i64 ys] (.ints .i64 (mg 10000 (val 10000 xs * val 10000 ys).toNat)) := by
 have hmn : ((xs.length : Int) + (ys.length : Int)).toNat = xs.length + ys.length := by omega
 refine jaa tbOk 6 ⟨Tryz.func143, rfl, rfl, jhy rfl⟩ ?_
 (conv => whnf)
 refine V.r0 hmn ?_
 refine jah ((0, List.replicate (xs.length + ys.length) 0) : Nat × List Int) (fun s => s.1 ≤ xs.length ∧ s.2.length = xs.length + ys.length ∧ Dg 10000 s.2 ∧ (∀ k, s.1 + ys.length ≤ k → s.2.getD k 0 = 0) ∧ val 10000 s.2 = val 10000 (xs.take s.1) * val 10000 ys) (fun s => xs.length - s.1)
  (fun s => [(6, .int .i64 s.1), (5, .osl 14 0 (xs.length + ys.length))]) (fun s => [(14, .arr .i64 s.2)]) ?_ ?_ ?_
 ·exact V.wk
 ·exact ⟨jhz _, by simp, jbP (by omega) _, fun k _ => by simp [List.getD_eq_getElem?_getD, List.getElem?_replicate]; split <;> simp, by simp [val, jdY]⟩
 rintro ⟨i, out⟩ ⟨h1, h2, h3, h4, h5⟩
 dsimp only at h1 h2 h3 h4 h5 ⊢
 have vx := jai 10000 xs i
 have bx := jal (by omega) hdx i
 generalize hx0 : xs.getD i 0 = x at *
 (conv => whnf)
 refine V.st ?_
 refine Cnd.split (CondB.mk (fun hq => ?_) (fun hq => ?_))
 ·rw [decide_eq_true_eq] at hq
  (conv => whnf)
  refine V.st ?_
  refine jah ((0, out, 0) : Nat × List Int × Int) (fun s => s.1 ≤ ys.length ∧ s.2.1.length = xs.length + ys.length ∧ Dg 10000 s.2.1 ∧ (∀ k, i + ys.length ≤ k → s.2.1.getD k 0 = 0) ∧ (0 ≤ s.2.2 ∧ s.2.2 < 10000 ∧ (s.1 = 0 → s.2.2 = 0)) ∧ val 10000 s.2.1 + ((10000 : Nat) : Int) ^ (i + s.1) * s.2.2 = val 10000 (xs.take i) * val 10000 ys + ((10000 : Nat) : Int) ^ i * x * val 10000 (ys.take s.1)) (fun s => ys.length - s.1)
   (fun s => [(8, .int .i64 s.1), (7, .int .i64 s.2.2), (6, .int .i64 i), (5, .osl 14 0 (xs.length + ys.length))]) (fun s => [(14, .arr .i64 s.2.1)]) ?_ ?_ ?_
  ·exact V.wk
  ·exact ⟨jhz _, h2, h3, h4, by simp, by simp [val, h5]⟩
  rintro ⟨j, o, c⟩ ⟨g1, g2, g3, g4, g5, g6⟩
  dsimp only at g1 g2 g3 g4 g5 g6 ⊢
  have vy := jai 10000 ys j
  have by' := hdy j
  have bo := jal (by omega) g3 (i + j)
  generalize hy0 : ys.getD j 0 = y at *
  generalize ho0 : o.getD (i + j) 0 = q at *
  have eij : ((i : Int) + (j : Int)).toNat = i + j := by omega
  have hxy : 0 ≤ x * y ∧ x * y ≤ 9999 * y := ⟨jhB (by omega) (by omega), jhI (by omega) (by omega)⟩
  have hkj : ((j : Int) + 1) = ((j + 1 : Nat) : Int) := by omega
  have hki : ((i : Int) + 1) = ((i + 1 : Nat) : Int) := by omega
  have ein : ((i : Int) + (ys.length : Int)).toNat = i + ys.length := by omega
  (conv => whnf)
  refine V.st ?_
  refine Cnd.split (CondB.mk (fun hw => ?_) (fun hw => ?_))
  ·rw [decide_eq_true_eq] at hw
   have hm : 0 ≤ (c + q + x * y) % 10000 ∧ (c + q + x * y) % 10000 < 10000 := ⟨Int.emod_nonneg _ (by omega), jhU _ (by omega)⟩
   have hc9 : 0 ≤ (c + q + x * y) / 10000 ∧ (c + q + x * y) / 10000 < 10000 := by
    rcases jhF j with e | e
    ·have := g5.2.2 e
     omega
    ·have := by'.2.2 e
     omega
   have hst := jfX (B := 10000) (x := x) (y := y) (q := q) (c := c) (d := (c + q + x * y) % 10000) (c' := (c + q + x * y) / 10000) (by omega) ho0 g6 (by have := jhA (c + q + x * y) 10000; omega)
   rw [← vy] at hst
   refine V.r0 (V.a7 eij @jhC @jhD hx0 hy0 ho0 hkj) ?_
   refine ⟨(.take 0 (.take 1 (.take 2 (.take 3 (.take 4 (.take 5 (.take 6 (.take 7 (.take 8 (.take 9 (.take 10 (.take 11 (.take 12 (.take 13 (.take 14 (.take 15 (.take 16 (.take 17 (.ev (.cons 18 [] (.done) (.nil))))))))))))))))))))), [], ⟨by kernel_rfl, by kernel_rfl, by kernel_rfl, by kernel_rfl⟩, .go (jag ?_)⟩
   refine V.r0 (V.a7 eij @jhC @jhD hx0 hy0 ho0 hkj) ?_
   exact ⟨(j + 1, o.set (i + j) ((c + q + x * y) % 10000), (c + q + x * y) / 10000), ⟨by dsimp only; omega, by dsimp only; rw [List.length_set]; exact g2, jdh g3 hm, fun k hk => by dsimp only; rw [jce (by omega)]; exact g4 k hk, ⟨hc9.1, hc9.2, fun h => by simp at h⟩, hst⟩, by dsimp only; omega, V.wk⟩
  ·rw [decide_eq_false_iff_not] at hw
   have hj : j = ys.length := by omega
   subst hj
   rw [List.take_length] at g6
   have hst := prod_end (B := 10000) (by omega) (g4 _ (jhE _)) g6 hx0
   refine V.r0 (V.a3 ein @jhC hki) ?_
   exact ⟨(i + 1, o.set (i + ys.length) c), ⟨by dsimp only; omega, by dsimp only; rw [List.length_set]; exact g2, jdh g3 ⟨g5.1, g5.2.1⟩, fun k hk => by dsimp only at hk ⊢; rw [jce (by omega)]; exact g4 k (by omega), hst⟩, by dsimp only; omega, V.wk⟩
 ·rw [decide_eq_false_iff_not] at hq
  rw [List.take_of_length_le (by omega)] at h5
  have hc := cut_c out h3 (by omega)
  rw [h5] at hc
  rw [← List.take_length (l := out), h2] at hc
  (conv => whnf)
  refine V.st ?_
  repeat ((try ((with_reducible refine .ext ?_); (conv => whnf))); (with_reducible refine jab (r := ?_) ?_ ?_); rotate_left; (focus (first | exact (hc))); (conv => whnf); refine V.st ?_)
  exact Fin.of rfl
theorem once_g (xs : List Int) (d : Int) (ha : xs.length ≤ 100000000) (hdx : Dg 10000 xs) (hd0 : 0 < d) (hd1 : d ≤ 10000) : Called Tryz.prog 174 [.ints .i64 xs, .int .i64 d] (.tup [.ints .i64 (mg 10000 (val 10000 xs / d).toNat), .int .i64 (val 10000 xs % d)]) := by
 have hmn : ((xs.length : Int)).toNat = xs.length := by omega
 refine jaa tbOk 6 ⟨Tryz.func174, rfl, rfl, jhy rfl⟩ ?_
 (conv => whnf)
 refine V.r0 hmn ?_
 refine jah ((xs.length, List.replicate xs.length 0, 0) : Nat × List Int × Int) (fun s => s.1 ≤ xs.length ∧ s.2.1.length = xs.length ∧ Dg 10000 s.2.1 ∧ (0 ≤ s.2.2 ∧ s.2.2 < d) ∧ val 10000 (xs.drop s.1) = val 10000 (s.2.1.drop s.1) * d + s.2.2) (fun s => s.1)
  (fun s => [(8, .int .i64 ((s.1 : Int) - 1)), (7, .int .i64 s.2.2), (6, .osl 11 0 xs.length)]) (fun s => [(11, .arr .i64 s.2.1)]) ?_ ?_ ?_
 ·exact V.wk
 ·exact ⟨jhE _, by simp, jbP (by omega) _, ⟨by simp, hd0⟩, by simp [val]⟩
 rintro ⟨k, out, r⟩ ⟨h1, h2, h3, h4, h5⟩
 dsimp only at h1 h2 h3 h4 h5 ⊢
 (conv => whnf)
 refine V.st ?_
 refine Cnd.split (CondB.mk (fun hq => ?_) (fun hq => ?_))
 ·rw [decide_eq_true_eq] at hq
  obtain ⟨j, rfl⟩ : ∃ j, k = j + 1 := ⟨k - 1, by omega⟩
  have hj : j < xs.length := by omega
  have bx := jal (by omega) hdx j
  generalize hx0 : xs.getD j 0 = x at *
  have e2 : (((j + 1 : Nat) : Int) - 1) = (j : Int) := by omega
  have hb := jee (B := 10000) hd0 h4 bx
  have hst := jed (B := 10000) hj (by omega) hx0 h5 (t := r * 10000 + x) rfl
  have hr0 : 0 ≤ r * 10000 + x := by omega
  refine V.r0 (V.a4 e2 @jhC @jhD hx0) ?_
  exact ⟨(j, out.set j ((r * 10000 + x) / d), (r * 10000 + x) % d), ⟨by dsimp only; omega, by dsimp only; rw [List.length_set]; exact h2, jdh h3 ⟨hb.1, hb.2.1⟩, ⟨hb.2.2.1, hb.2.2.2⟩, hst⟩, by dsimp only; omega, V.wk⟩
 ·rw [decide_eq_false_iff_not] at hq
  obtain rfl : k = 0 := by omega
  rw [List.drop_zero, List.drop_zero] at h5
  have e1 : val 10000 xs / d = val 10000 out := by
   rw [h5, Int.add_comm, Int.add_mul_ediv_right _ _ (by omega), Int.ediv_eq_zero_of_lt h4.1 h4.2, Int.zero_add]
  have e2 : val 10000 xs % d = r := by
   rw [h5, Int.add_comm, Int.add_mul_emod_self_right, Int.emod_eq_of_lt h4.1 h4.2]
  have hc := cut_c out h3 (by omega)
  rw [← e1, ← List.take_length (l := out), h2] at hc
  (conv => whnf)
  refine V.st ?_
  repeat ((try ((with_reducible refine .ext ?_); (conv => whnf))); (with_reducible refine jab (r := ?_) ?_ ?_); rotate_left; (focus (first | exact (hc))); (conv => whnf); refine V.st ?_)
  exact Fin.of (by rw [e1, e2])
theorem jaX (B : Nat) (l : List Int) (k : Nat) : val B (l.drop k) = l.getD k 0 + B * val B (l.drop (k + 1)) := by
 rcases jhK k l.length with h | h
 ·exact jbI h
 ·rw [List.drop_eq_nil_of_le h, List.drop_eq_nil_of_le (by omega), jbU h]; simp [val]
theorem jdJ {B : Nat} {l : List Int} (hB : 2 ≤ B) (hd : Dg B l) (k : Nat) : val B (l.drop k) * (B : Int) ^ k ≤ val B l ∧ val B l < (val B (l.drop k) + 1) * (B : Int) ^ k := by
 rcases Nat.le_total k l.length with h | h
 ·have h1 := jbB B l k h
  have h2 := jam (jbc hd k)
  have h3 := jbV (jbc hd k)
  rw [List.length_take, Nat.min_eq_left h] at h3
  rw [jhX, jhY, h1, jhO (val B (l.drop k))]
  omega
 ·rw [List.drop_eq_nil_of_le h]
  have h2 := jam hd
  have h3 := jbV hd
  have h4 : B ^ l.length ≤ B ^ k := jhS (by omega) h
  have h5 : ((B ^ l.length : Nat) : Int) ≤ ((B ^ k : Nat) : Int) := by exact_mod_cast h4
  rw [jhW, jhW] at h5
  simp [val]
  omega
theorem trial_ends {B F top P R b : Int} (hB : 2 ≤ B) (hP : 0 < P) (ht : B ≤ top) (hF0 : 0 ≤ F) (hb1 : top * P ≤ b) (hb2 : b < (top + 1) * P) (hR1 : F * P ≤ R) (hR2 : R < (F + 1) * P) (hlt : R < B * b) :
  0 ≤ F / (top + 1) ∧ F / (top + 1) * b ≤ R ∧ R < (F / top + 1) * b ∧ F / top + 1 ≤ B + 1 := by
 have h0 : 0 ≤ F / (top + 1) := Int.ediv_nonneg hF0 (by omega)
 refine ⟨h0, ?_, ?_, ?_⟩
 ·have h1 : F / (top + 1) * b ≤ F / (top + 1) * ((top + 1) * P) := jhQ (by omega) h0
  have h2 : F / (top + 1) * (top + 1) ≤ F := Int.ediv_mul_le _ (by omega)
  have h3 : F / (top + 1) * (top + 1) * P ≤ F * P := jhI h2 (by omega)
  rw [jhP] at h3
  omega
 ·have h1 : F < (F / top + 1) * top := Int.lt_ediv_add_one_mul_self _ (by omega)
  have h2 : (F + 1) * P ≤ (F / top + 1) * top * P := jhI (by omega) (by omega)
  have h4 : 0 ≤ F / top := Int.ediv_nonneg hF0 (by omega)
  have h3 : (F / top + 1) * (top * P) ≤ (F / top + 1) * b := jhQ hb1 (by omega)
  rw [jhP] at h2
  omega
 ·have h1 : F * P < B * (top + 1) * P := by
   have : B * b < B * ((top + 1) * P) := Int.mul_lt_mul_of_pos_left hb2 (by omega)
   rw [jhP]; omega
  have h2 := Int.lt_of_mul_lt_mul_right h1 (by omega)
  rw [jhN, Int.mul_one] at h2
  have h3 : F / top < B + 1 := Int.ediv_lt_of_lt_mul (by omega) (by rw [jhX, jhY]; omega)
  omega
theorem trial_out {R b low high : Int} (hb : 0 < b) (h1 : low * b ≤ R) (h2 : R < high * b) (h3 : high - low ≤ 1) : low = R / b ∧ R - b * low = R % b := by
 have h4 : low < high := Int.lt_of_mul_lt_mul_right (Int.lt_of_le_of_lt h1 h2) (by omega)
 obtain rfl : high = low + 1 := by omega
 have h5 : low = R / b := by
  refine Int.le_antisymm ((Int.le_ediv_iff_mul_le hb).2 h1) ?_
  have := (Int.ediv_lt_iff_lt_mul hb).2 h2
  omega
 refine ⟨h5, ?_⟩
 have := jhA R b
 rw [h5]; omega
theorem cut_mg (n : Nat) (h : (mg 10000 n).length ≤ 281474976710656) : Called Tryz.prog 156 [.ints .i64 (mg 10000 n)] (.ints .i64 (mg 10000 n)) := by
 have := cut_c _ (mg_dg (B := 10000) (by omega) n) h
 rw [jaD (by omega), jhD] at this
 exact this
theorem parts_one (a b : Nat) (ha : (mg 10000 a).length ≤ 100000000) (hb : 0 < b) (hb1 : b < 10000) : Called Tryz.prog 141 [.ints .i64 (mg 10000 a), .ints .i64 (mg 10000 b)] (.tup [.ints .i64 (mg 10000 (a / b)), .ints .i64 (mg 10000 (a % b))]) := by
 have hmb : mg 10000 b = [(b : Int)] := by
  rw [jbZ (by omega) hb, jhH hb1, Nat.div_eq_of_lt hb1]; rfl
 have ho := once_g (mg 10000 a) (b : Int) ha (mg_dg (by omega) a) (by omega) (by omega)
 rw [jaD (by omega)] at ho
 have e1 : ((a : Int) / (b : Int)).toNat = a / b := by rw [← Int.natCast_ediv, jhD]
 have e2 : ((a : Int) % (b : Int)) = ((a % b : Nat) : Int) := by rw [Int.natCast_emod]
 rw [e1, e2] at ho
 have hlt : a % b < b := Nat.mod_lt _ hb
 have hc := cut_c [((a % b : Nat) : Int)] (jas ⟨by omega, by omega⟩) (by simp)
 have e3 : (val 10000 [((a % b : Nat) : Int)]).toNat = a % b := by rw [val, val, Int.mul_zero, jhV, jhD]
 rw [e3] at hc
 rw [hmb]
 refine jaa tbOk 6 ⟨Tryz.func141, rfl, rfl, jhy rfl⟩ ?_
 (conv => whnf)
 refine V.st ?_
 refine Cnd.yes (by simp) ?_
 (conv => whnf)
 refine V.st ?_
 repeat ((try ((with_reducible refine .ext ?_); (conv => whnf))); (with_reducible refine jab (r := ?_) ?_ ?_); rotate_left; (focus (first | exact (ho) | exact (hc))); (conv => whnf); refine V.st ?_)
 exact Fin.of rfl
theorem jgA (a b : Nat) (ha : (mg 10000 a).length < (mg 10000 b).length) (hb : (mg 10000 b).length ≤ 100000000) (hb1 : 10000 ≤ b) : Called Tryz.prog 141 [.ints .i64 (mg 10000 a), .ints .i64 (mg 10000 b)] (.tup [.ints .i64 (mg 10000 (a / b)), .ints .i64 (mg 10000 (a % b))]) := by
 have hlt : a < b := Nat.lt_of_not_le fun h => by have := jae (B := 10000) (by omega) h; omega
 have hl2 : 2 ≤ (mg 10000 b).length := by
  have := jae (B := 10000) (by omega) hb1
  have e : mg 10000 10000 = [0, 1] := by rfl
  rw [e] at this; exact this
 rw [Nat.div_eq_of_lt hlt, jhH hlt, jcb]
 generalize mg 10000 a = xs at *
 generalize mg 10000 b = ys at *
 refine jaa tbOk 6 ⟨Tryz.func141, rfl, rfl, jhy rfl⟩ ?_
 (conv => whnf)
 refine V.st ?_
 refine Cnd.no (by simp; omega) ?_
 (conv => whnf)
 refine V.st ?_
 refine Cnd.yes (by simp; omega) ?_
 (conv => whnf)
 refine V.st ?_
 exact Fin.tup ⟨Fin.nil _, Fin.of (by rw [List.nil_append, jhC, List.take_length]), trivial⟩
theorem zJ10_0 : type_of% @jhD ∧ type_of% @jhC := ⟨@jhD, @jhC⟩
theorem parts_long (a b : Nat) (ha : (mg 10000 b).length ≤ (mg 10000 a).length) (hb : (mg 10000 a).length ≤ 90000000) (hb1 : 10000 ≤ b) : Called Tryz.prog 141 [.ints .i64 (mg 10000 a), .ints .i64 (mg 10000 b)] (.tup [.ints .i64 (mg 10000 (a / b)), .ints .i64 (mg 10000 (a % b))]) := by
 obtain ⟨n, hn⟩ : ∃ n, (mg 10000 b).length = n + 2 := by
  have := jae (B := 10000) (by omega) hb1
  have e : mg 10000 10000 = [0, 1] := by rfl
  rw [e] at this
  exact ⟨(mg 10000 b).length - 2, by simp at this; omega⟩
 have hdx := mg_dg (B := 10000) (by omega) a
 have hdy := mg_dg (B := 10000) (by omega) b
 have hvx := jaD (B := 10000) (by omega) a
 have hvy := jaD (B := 10000) (by omega) b
 have hlx := jdr (B := 10000) (n := a) (by omega)
 have hly := jdr (B := 10000) (n := b) (by omega)
 generalize hxs : mg 10000 a = xs at *
 generalize hys : mg 10000 b = ys at *
 have e1 : ((ys.length : Int) - 1) = ((n + 1 : Nat) : Int) := by omega
 have e2 : (((n + 1 : Nat) : Int) - 1) = (n : Int) := by omega
 have e3 : ((xs.length : Int) - ((n + 1 : Nat) : Int)) = ((xs.length - (n + 1) : Nat) : Int) := by omega
 refine jaa tbOk 6 ⟨Tryz.func141, rfl, rfl, jhy rfl⟩ ?_
 (conv => whnf)
 refine V.st ?_
 refine Cnd.no (by simp; omega) ?_
 refine V.r0 (V.a4 e1 e2 e3 @jhD) ?_
 refine Cnd.no (by simp; omega) ?_
 refine V.r0 (V.a4 e1 e2 e3 @jhD) ?_
 refine ⟨(.take 0 (.take 1 (.take 2 (.take 3 (.take 4 (.take 5 (.take 6 (.take 7 (.take 8 (.take 9 (.take 10 (.take 11 (.done))))))))))))), [], ⟨by kernel_rfl, by kernel_rfl, by kernel_rfl, by kernel_rfl⟩, .go (jag ?_)⟩
 have b1 := jal (by omega) hdy (n + 1)
 have b0 := jal (by omega) hdy n
 have htop : val 10000 (ys.drop n) = ys.getD (n + 1) 0 * 10000 + ys.getD n 0 := by
  rw [jaX, jaX, List.drop_eq_nil_of_le (by omega)]; simp [val]; omega
 have hy1 : ys.getD (n + 1) 0 ≠ 0 := by
  refine hly _ ?_
  rw [List.getLast?_eq_getElem?, hn, List.getD_eq_getElem?_getD]
  rw [show n + 2 - 1 = n + 1 by omega, List.getElem?_eq_getElem (by omega)]; rfl
 have hvye := jdJ (B := 10000) (by omega) hdy n
 rw [htop, hvy] at hvye
 have htop1 : 10000 ≤ ys.getD (n + 1) 0 * 10000 + ys.getD n 0 := by omega
 have hbpos : 0 < b := by omega
 have hPpos : (0 : Int) < ((10000 : Nat) : Int) ^ n := jdM (by omega) n
 have hbB : b < 10000 ^ (n + 2) := by rw [← hn, ← hys]; exact jaG (by omega)
 generalize hy1' : ys.getD (n + 1) 0 = y1 at *
 generalize hy0' : ys.getD n 0 = y0 at *
 obtain ⟨R0, hR0⟩ : ∃ R0 : Nat, xs.drop (xs.length - (n + 1)) = mg 10000 R0 := ⟨_, mg_of (by omega) (jbj hdx _) fun x hx => hlx x (by
  rw [List.getLast?_drop] at hx
  split at hx
  ·cases hx
  ·exact hx)⟩
 have hR0v := congrArg (val 10000) hR0
 rw [jaD (by omega)] at hR0v
 have hR0b : R0 < b := by
  have h1 : R0 < 10000 ^ (n + 1) := by
   have := jaG (B := 10000) (n := R0) (by omega)
   rw [← hR0, List.length_drop] at this
   exact jhJ this (jhS (by omega) (by omega))
  have h2 := jcn (B := 10000) (n := b) (by omega) hbpos
  rw [hys, hn] at h2
  exact jhJ h1 h2
 have hR0l : (mg 10000 R0).length = n + 1 := by rw [← hR0, List.length_drop]; omega
 generalize hL : xs.length - (n + 1) = L at *
 (conv => whnf)
 (try simp only [e1, e2, e3, jhD, hy1', hy0', hR0, hR0l, jhC, List.nil_append])
 repeat ((first | refine V.s1 ?_); (try simp only [e1, e2, e3, jhD, hy1', hy0', hR0, hR0l, jhC, List.nil_append]))
 refine Lp.pub 66 ?_
 (conv => whnf)
 have hR0t : List.take (n + 1) (mg 10000 R0) = mg 10000 R0 := by rw [← hR0l, List.take_length]
 try simp only [hR0t, List.take_length]
 refine jah ((L, List.replicate L 0, R0) : Nat × List Int × Nat) (fun s => s.1 ≤ L ∧ s.2.1.length = L ∧ Dg 10000 s.2.1 ∧ s.2.2 < b ∧ val 10000 (xs.drop s.1) = val 10000 (s.2.1.drop s.1) * b + s.2.2) (fun s => s.1)
  (fun s => [(12, .int .i64 ((s.1 : Int) - 1)), (11, .ints .i64 (mg 10000 s.2.2)), (10, .osl 58 0 L)]) (fun s => [(58, .arr .i64 s.2.1)]) ?_ ?_ ?_
 ·exact V.wk
 ·exact ⟨jhE _, by simp, jbP (by omega) _, hR0b, by rw [hR0v]; simp [val]⟩
 rintro ⟨k, q, R⟩ ⟨h1, h2, h3, h4, h5⟩
 dsimp only at h1 h2 h3 h4 h5 ⊢
 (conv => whnf)
 refine V.st ?_
 refine Cnd.split (CondB.mk (fun hq => ?_) (fun hq => ?_))
 ·rw [decide_eq_true_eq] at hq
  obtain ⟨j, rfl⟩ : ∃ j, k = j + 1 := ⟨k - 1, by omega⟩
  have hj : j < xs.length := by omega
  have bx := jal (by omega) hdx j
  generalize hx0 : xs.getD j 0 = x at *
  have f1 : (((j + 1 : Nat) : Int) - 1) = (j : Int) := by omega
  have hRl := jax (B := 10000) (n := R) (k := n + 2) (by omega) (by omega)
  obtain ⟨t, ht⟩ : ∃ t : Nat, x + 10000 * (R : Int) = t := ⟨(x + 10000 * (R : Int)).toNat, by omega⟩
  have hc1 := cut_c ([x] ++ mg 10000 R) (jaj (jas bx) (mg_dg (by omega) R)) (by simp; omega)
  have hv1 : val 10000 ([x] ++ mg 10000 R) = t := by rw [List.singleton_append, val, jaD (by omega)]; exact ht
  rw [hv1, jhD] at hc1
  have hl1 : ([x] ++ mg 10000 R).length = 1 + (mg 10000 R).length := by simp; omega
  rw [← List.take_length (l := [x] ++ mg 10000 R), hl1] at hc1
  have htB : t < 10000 * b := by omega
  have htl := jax (B := 10000) (n := t) (k := n + 3) (by omega) (by rw [Nat.pow_succ]; omega)
  have hdt := mg_dg (B := 10000) (by omega) t
  have hvt := jaD (B := 10000) (by omega) t
  have hst := jed (B := 10000) (d := (b : Int)) hj (by omega) hx0 h5 (t := (t : Int)) (by omega)
  generalize hts : mg 10000 t = ts at *
  refine V.r1 (V.a3 zJ10_0 f1 hx0) hc1 ?_
  have g1 : ((n + 1 : Nat) : Int) + 1 = (n : Int) + ((3 : Nat) : Int) - 1 := by omega
  try simp only [g1]
  refine jah (3 : Nat) (fun m => m ≤ 3) (fun m => m) (fun m => [(14, .int .i64 ((n : Int) + (m : Int) - 1)), (13, .int .i64 (val 10000 (ts.drop (n + m))))]) (fun _ => []) ?_ ?_ ?_
  ·rw [show val 10000 (ts.drop (n + 3)) = 0 by rw [List.drop_eq_nil_of_le htl]; rfl]
   exact V.wk
  ·exact jhE _
  intro m hm
  have hF : ∀ k, n ≤ k → 0 ≤ val 10000 (ts.drop k) ∧ val 10000 (ts.drop k) < 1000000000000 := fun k hk => ⟨jam (jbj hdt k), by
   have h8 := jbV (jbj hdt k)
   have h9 : (10000 : Nat) ^ (ts.drop k).length ≤ 10000 ^ 3 := jhS (by omega) (by rw [List.length_drop]; omega)
   have h7 : ((10000 ^ (ts.drop k).length : Nat) : Int) ≤ ((10000 ^ 3 : Nat) : Int) := by exact_mod_cast h9
   rw [jhW] at h7
   omega⟩
  (conv => whnf)
  refine V.st ?_
  refine Cnd.split (CondB.mk (fun hq1 => ?_) (fun hq1 => ?_))
  ·rw [decide_eq_true_eq] at hq1
   obtain ⟨m, rfl⟩ : ∃ m', m = m' + 1 := ⟨m - 1, by omega⟩
   have g2 : (n : Int) + ((m + 1 : Nat) : Int) - 1 = ((n + m : Nat) : Int) := by omega
   have g3 : ((n + m : Nat) : Int) - 1 = (n : Int) + (m : Int) - 1 := by omega
   have hF1 := hF (n + (m + 1)) (by omega)
   have hF0 := hF (n + m) (by omega)
   have hd1 : val 10000 (ts.drop (n + (m + 1))) * 10000 + ts.getD (n + m) 0 = val 10000 (ts.drop (n + m)) := by
    rw [jaX 10000 ts (n + m), jhO, Int.add_comm]; rfl
   refine V.r0 g2 ?_
   refine Cnd.split (CondB.mk (fun hq2 => ?_) (fun hq2 => ?_))
   ·rw [decide_eq_true_eq] at hq2
    have bt := jal (by omega) hdt (n + m)
    refine V.r0 (V.a4 g2 g3 @jhD hd1) ?_
    exact ⟨m, by omega, by omega, V.wk⟩
   ·rw [decide_eq_false_iff_not] at hq2
    rw [jbU (by omega), jhV] at hd1
    refine V.r0 (V.a4 g2 g3 @jhD hd1) ?_
    exact ⟨m, by omega, by omega, V.wk⟩
  ·rw [decide_eq_false_iff_not] at hq1
   obtain rfl : m = 0 := by omega
   have hte := jdJ (B := 10000) (by omega) hdt n
   rw [hvt] at hte
   have hFn := hF n (by omega)
   refine V.r0 @Nat.add_zero ?_
   refine ⟨(.take 0 (.take 1 (.take 2 (.take 3 (.take 4 (.take 5 (.take 6 (.take 7 (.take 8 (.take 9 (.done))))))))))), [], ⟨by kernel_rfl, by kernel_rfl, by kernel_rfl, by kernel_rfl⟩, .go (jag ?_)⟩
   have hends := trial_ends (B := 10000) (F := val 10000 (ts.drop n)) (top := y1 * 10000 + y0) (P := ((10000 : Nat) : Int) ^ n) (R := (t : Int)) (b := (b : Int)) (by omega) hPpos htop1 hFn.1 hvye.1 hvye.2 hte.1 hte.2 (by omega)
   generalize hFv : val 10000 (ts.drop n) = F at *
   refine V.r0 (V.a2 @Nat.add_zero hFv) ?_
   have hFlo : 0 ≤ F / (y1 * 10000 + y0) := Int.ediv_nonneg (by omega) (by omega)
   refine jah ((F / (y1 * 10000 + y0 + 1), F / (y1 * 10000 + y0) + 1) : Int × Int) (fun s => 0 ≤ s.1 ∧ s.1 * b ≤ t ∧ t < s.2 * b ∧ s.2 ≤ 10001) (fun s => (s.2 - s.1).toNat) (fun s => [(16, .int .i64 s.2), (15, .int .i64 s.1)]) (fun _ => []) ?_ ?_ ?_
   ·exact V.wk
   ·exact ⟨hends.1, hends.2.1, hends.2.2.1, by dsimp only; omega⟩
   rintro ⟨low, high⟩ ⟨i1, i2, i3, i4⟩
   dsimp only at i1 i2 i3 i4 ⊢
   have hlh : low < high := Int.lt_of_mul_lt_mul_right (Int.lt_of_le_of_lt i2 i3) (by omega)
   (conv => whnf)
   refine V.st ?_
   refine Cnd.split (CondB.mk (fun hq3 => ?_) (fun hq3 => ?_))
   ·rw [decide_eq_true_eq] at hq3
    obtain ⟨m, hm2⟩ : ∃ m : Nat, (low + high) / 2 = m := ⟨((low + high) / 2).toNat, by omega⟩
    have hp := jfW ys [(m : Int)] (by omega) (by simp) hdy (fun j => by
     cases j with
     | zero => simp; omega
     | succ j => simp)
    have hpv : (val 10000 ys * val 10000 [(m : Int)]).toNat = b * m := by
     rw [hvy, val, val, Int.mul_zero, jhV, ← jhM, jhD]
    rw [hpv] at hp
    have hpl := jax (B := 10000) (n := b * m) (k := n + 4) (by omega) (by
     have h8 : b * m ≤ b * 10000 := Nat.mul_le_mul_left _ (by omega)
     rw [Nat.pow_succ, Nat.pow_succ]; omega)
    have hcm := cut_mg (b * m) (by omega)
    have ho := order_c (mg 10000 (b * m)) ts (by omega) (by omega) (mg_dg (by omega) _) hdt
    have hsg := jfY (b * m) t
    rw [hts] at hsg
    generalize ordV (mg 10000 (b * m)) ts = od at *
    have hbm : (m : Int) * (b : Int) = ((b * m : Nat) : Int) := by rw [jhG, jhM]
    refine V.r3 hm2 hp hcm ho ?_
    refine Cnd.split (CondB.mk (fun hq4 => ?_) (fun hq4 => ?_))
    ·rw [decide_eq_true_eq] at hq4
     (conv => whnf)
     refine V.st ?_
     exact ⟨((m : Int), high), ⟨by dsimp only; omega, by dsimp only; omega, i3, i4⟩, by dsimp only; omega, V.wk⟩
    ·rw [decide_eq_false_iff_not] at hq4
     (conv => whnf)
     refine V.st ?_
     exact ⟨(low, (m : Int)), ⟨i1, i2, by dsimp only; omega, by dsimp only; omega⟩, by dsimp only; omega, V.wk⟩
   ·rw [decide_eq_false_iff_not] at hq3
    have hout := trial_out (R := (t : Int)) (b := (b : Int)) (by omega) i2 i3 (by omega)
    obtain ⟨lw, rfl⟩ : ∃ lw : Nat, low = lw := ⟨low.toNat, by omega⟩
    have hlwB : lw < 10000 := by
     have h8 : (lw : Int) * b < 10000 * b := by omega
     have := Int.lt_of_mul_lt_mul_right h8 (by omega)
     omega
    have hp := jfW ys [(lw : Int)] (by omega) (by simp) hdy (fun j => by
     cases j with
     | zero => simp; omega
     | succ j => simp)
    have hpv : (val 10000 ys * val 10000 [(lw : Int)]).toNat = b * lw := by
     rw [hvy, val, val, Int.mul_zero, jhV, ← jhM, jhD]
    rw [hpv] at hp
    have hble : b * lw ≤ t := by
     rw [← jhM] at i2
     have := Int.ofNat_le.1 i2
     rw [jhG]; exact this
    have hdf := jcy t (b * lw) hble (by rw [hts]; omega)
    rw [hts] at hdf
    have hmod : ((t % b : Nat) : Int) = (t : Int) % (b : Int) := Int.natCast_emod _ _
    have hmod2 : t - b * lw = t % b := by
     have h8 := hout.2
     rw [← jhM] at h8
     omega
    rw [hmod2] at hdf
    refine V.r2 (V.a2 zJ10_0 f1) hp hdf ?_
    rw [← hout.1, ← hmod] at hst
    exact ⟨(j, q.set j (lw : Int), t % b), ⟨by dsimp only; omega, by dsimp only; rw [List.length_set]; exact h2, jdh h3 (by omega), Nat.mod_lt _ hbpos, hst⟩, by dsimp only; omega, V.wk⟩
 ·rw [decide_eq_false_iff_not] at hq
  obtain rfl : k = 0 := by omega
  rw [List.drop_zero, List.drop_zero, hvx] at h5
  have hvq := jam h3
  obtain ⟨w, hw⟩ : ∃ w : Nat, val 10000 q = w := ⟨(val 10000 q).toNat, by omega⟩
  rw [hw, ← jhM] at h5
  have h6 : a = w * b + R := by omega
  have e8 : a / b = w := by rw [h6, Nat.add_comm, Nat.add_mul_div_right _ _ hbpos, Nat.div_eq_of_lt h4, jhC]
  have e9 : a % b = R := by rw [h6, Nat.add_comm, Nat.add_mul_mod_self_right, jhH h4]
  have hc := cut_c q h3 (by omega)
  rw [hw, jhD, ← List.take_length (l := q), h2] at hc
  (conv => whnf)
  refine V.st ?_
  repeat ((try ((with_reducible refine .ext ?_); (conv => whnf))); (with_reducible refine jab (r := ?_) ?_ ?_); rotate_left; (focus (first | exact (hc))); (conv => whnf); refine V.st ?_)
  exact Fin.of (by rw [e8, e9])
theorem parts_c (a b : Nat) (ha : (mg 10000 a).length ≤ 90000000) (hb : (mg 10000 b).length ≤ 90000000) (hb0 : 0 < b) : Called Tryz.prog 141 [.ints .i64 (mg 10000 a), .ints .i64 (mg 10000 b)] (.tup [.ints .i64 (mg 10000 (a / b)), .ints .i64 (mg 10000 (a % b))]) := by
 rcases jhK b 10000 with h | h
 ·exact parts_one a b (by omega) hb0 h
 ·rcases jhK (mg 10000 a).length (mg 10000 b).length with h2 | h2
  ·exact jgA a b h2 (by omega) h
  ·exact parts_long a b h2 ha h
def Sm (k : Nat) (z : Int) : Prop := (mg 10000 z.natAbs).length ≤ k
theorem jcD {B : Nat} (hB : 2 ≤ B) (a b : Nat) : (mg B (a + b)).length ≤ max (mg B a).length (mg B b).length + 1 := by
 have h1 := jaG (B := B) (n := a) hB
 have h2 := jaG (B := B) (n := b) hB
 have h3 : B ^ (mg B a).length ≤ B ^ max (mg B a).length (mg B b).length := jhS (by omega) (by omega)
 have h4 : B ^ (mg B b).length ≤ B ^ max (mg B a).length (mg B b).length := jhS (by omega) (by omega)
 refine jax hB ?_
 rw [Nat.pow_succ]
 have h5 := Nat.mul_le_mul_left (B ^ max (mg B a).length (mg B b).length) hB
 omega
theorem jb0 {B : Nat} (hB : 2 ≤ B) (a b : Nat) : (mg B (a * b)).length ≤ (mg B a).length + (mg B b).length := by
 have h1 := jaG (B := B) (n := a) hB
 have h2 := jaG (B := B) (n := b) hB
 refine jax hB ?_
 rw [Nat.pow_add]
 exact Nat.mul_lt_mul'' h1 h2
theorem Sm.mono {k l : Nat} {z : Int} (h : Sm k z) (hl : k ≤ l) : Sm l z := jhL h hl
theorem Sm.neg {k : Nat} {z : Int} (h : Sm k z) : Sm k (-z) := by unfold Sm at *; rw [Int.natAbs_neg]; exact h
theorem Sm.le {k : Nat} {y z : Int} (h : Sm k z) (hy : y.natAbs ≤ z.natAbs) : Sm k y := jhL (jae (by omega) hy) h
theorem Sm.mul {k l : Nat} {y z : Int} (h : Sm k y) (h2 : Sm l z) : Sm (k + l) (y * z) := by
 unfold Sm at *
 rw [Int.natAbs_mul]
 have := jb0 (B := 10000) (by omega) y.natAbs z.natAbs
 omega
theorem Sm.add {k : Nat} {y z : Int} (h : Sm k y) (h2 : Sm k z) : Sm (k + 1) (y + z) := by
 unfold Sm at *
 have h3 := jcD (B := 10000) (by omega) y.natAbs z.natAbs
 have h4 := jae (B := 10000) (by omega) (Int.natAbs_add_le y z)
 omega
theorem Sm.lit {k : Nat} {z : Int} (h : z.natAbs < 10000 ^ k) : Sm k z := jax (by omega) h
theorem jeh (b : Bool) (n : Nat) (h : (mg 10000 n).length ≤ 200000000) : Called Tryz.prog 117 [.bool b, .ints .i64 (mg 10000 n)] (plD (if b then -(n : Int) else n)) := by
 have := jfy b (mg 10000 n) (mg_dg (by omega) n) (by omega)
 rw [jaD (by omega)] at this
 exact this
theorem plus_c (x y : Int) (hx : Sm 90000000 x) (hy : Sm 90000000 y) : Called Tryz.prog 118 [plD x, plD y] (plD (x + y)) := by
 unfold Sm at hx hy
 have hl := jcD (B := 10000) (by omega) x.natAbs y.natAbs
 have hs := sum_c x.natAbs y.natAbs (by omega) (by omega)
 have ho := order_c (mg 10000 x.natAbs) (mg 10000 y.natAbs) (by omega) (by omega) (mg_dg (by omega) _) (mg_dg (by omega) _)
 have hsg := jfY x.natAbs y.natAbs
 generalize ordV (mg 10000 x.natAbs) (mg 10000 y.natAbs) = od at *
 rw [show plD x = .agg [.bool (decide (x < 0)), .ints .i64 (mg 10000 x.natAbs)] from rfl, show plD y = .agg [.bool (decide (y < 0)), .ints .i64 (mg 10000 y.natAbs)] from rfl]
 refine jaa tbOk 6 ⟨Tryz.func118, rfl, rfl, jhy rfl⟩ ?_
 (conv => whnf)
 refine V.st ?_
 refine Cnd.split (CondB.mk (fun hq => ?_) (fun hq => ?_))
 ·rw [beq_iff_eq, decide_eq_decide] at hq
  have hm := jeh (decide (x < 0)) (x.natAbs + y.natAbs) (by omega)
  have e : (if decide (x < 0) = true then -((x.natAbs + y.natAbs : Nat) : Int) else ((x.natAbs + y.natAbs : Nat) : Int)) = x + y := by
   by_cases h : x < 0
   ·simp [h]; omega
   ·simp [h]; omega
  rw [e] at hm
  (conv => whnf)
  refine V.st ?_
  refine ⟨(.take 0 (.take 1 (.take 2 (.take 3 (.take 4 (.take 5 (.ev (.cons 6 [1, 0] (.ev (.cons 7 [] (.ev (.cons 8 [] (.done) (.nil))) (.nil))) (.nil))))))))), [], ⟨by kernel_rfl, by kernel_rfl, by kernel_rfl, by kernel_rfl⟩, .go (jag ?_)⟩
  (conv => whnf)
  refine V.st ?_
  repeat ((try ((with_reducible refine .ext ?_); (conv => whnf))); (with_reducible refine jab (r := ?_) ?_ ?_); rotate_left; (focus (first | exact (hs) | exact (hm))); (conv => whnf); refine V.st ?_)
  exact Fin.of rfl
 ·have hq' : ¬ (x < 0 ↔ y < 0) := fun h => by rw [beq_eq_false_iff_ne] at hq; exact hq (decide_eq_decide.2 h)
  (conv => whnf)
  refine V.st ?_
  repeat ((try ((with_reducible refine .ext ?_); (conv => whnf))); (with_reducible refine jab (r := ?_) ?_ ?_); rotate_left; (focus (first | exact (ho))); (conv => whnf); refine V.st ?_)
  refine Cnd.split (CondB.mk (fun hq2 => ?_) (fun hq2 => ?_))
  ·rw [decide_eq_true_eq] at hq2
   have hd := jcy x.natAbs y.natAbs (by omega) (by omega)
   have hl2 := jae (B := 10000) (by omega) (Nat.sub_le x.natAbs y.natAbs)
   have hm := jeh (decide (x < 0)) (x.natAbs - y.natAbs) (by omega)
   have e : (if decide (x < 0) = true then -((x.natAbs - y.natAbs : Nat) : Int) else ((x.natAbs - y.natAbs : Nat) : Int)) = x + y := by
    by_cases h : x < 0
    ·simp [h]; omega
    ·simp [h]; omega
   rw [e] at hm
   (conv => whnf)
   refine V.st ?_
   refine ⟨(.take 0 (.take 1 (.take 2 (.take 3 (.take 4 (.take 5 (.ev (.cons 6 [1, 0] (.ev (.cons 7 [] (.ev (.cons 8 [] (.done) (.nil))) (.nil))) (.nil))))))))), [], ⟨by kernel_rfl, by kernel_rfl, by kernel_rfl, by kernel_rfl⟩, .go (jag ?_)⟩
   (conv => whnf)
   refine V.st ?_
   repeat ((try ((with_reducible refine .ext ?_); (conv => whnf))); (with_reducible refine jab (r := ?_) ?_ ?_); rotate_left; (focus (first | exact (hd) | exact (hm))); (conv => whnf); refine V.st ?_)
   exact Fin.of rfl
  ·rw [decide_eq_false_iff_not] at hq2
   have hd := jcy y.natAbs x.natAbs (by omega) (by omega)
   have hl2 := jae (B := 10000) (by omega) (Nat.sub_le y.natAbs x.natAbs)
   have hm := jeh (decide (y < 0)) (y.natAbs - x.natAbs) (by omega)
   have e : (if decide (y < 0) = true then -((y.natAbs - x.natAbs : Nat) : Int) else ((y.natAbs - x.natAbs : Nat) : Int)) = x + y := by
    by_cases h : y < 0
    ·simp [h]; omega
    ·simp [h]; omega
   rw [e] at hm
   (conv => whnf)
   refine V.st ?_
   refine ⟨(.take 0 (.take 1 (.take 2 (.take 3 (.take 4 (.take 5 (.ev (.cons 6 [1, 0] (.ev (.cons 7 [] (.ev (.cons 8 [] (.done) (.nil))) (.nil))) (.nil))))))))), [], ⟨by kernel_rfl, by kernel_rfl, by kernel_rfl, by kernel_rfl⟩, .go (jag ?_)⟩
   (conv => whnf)
   refine V.st ?_
   repeat ((try ((with_reducible refine .ext ?_); (conv => whnf))); (with_reducible refine jab (r := ?_) ?_ ?_); rotate_left; (focus (first | exact (hd) | exact (hm))); (conv => whnf); refine V.st ?_)
   exact Fin.of rfl
theorem minus_c (x y : Int) (hx : Sm 90000000 x) (hy : Sm 90000000 y) : Called Tryz.prog 142 [plD x, plD y] (plD (x - y)) := by
 have ht := turn_c y (by unfold Sm at hy; omega)
 have hp := plus_c x (-y) hx hy.neg
 rw [show x + -y = x - y by omega] at hp
 rw [show plD x = .agg [.bool (decide (x < 0)), .ints .i64 (mg 10000 x.natAbs)] from rfl, show plD y = .agg [.bool (decide (y < 0)), .ints .i64 (mg 10000 y.natAbs)] from rfl] at *
 refine jaa tbOk 6 ⟨Tryz.func142, rfl, rfl, jhy rfl⟩ ?_
 (conv => whnf)
 refine V.st ?_
 refine ⟨(.take 0 (.take 1 (.ev (.cons 2 [0] (.ev (.cons 3 [] (.ev (.cons 4 [] (.done) (.nil))) (.nil))) (.nil))))), [], ⟨by kernel_rfl, by kernel_rfl, by kernel_rfl, by kernel_rfl⟩, .go (jag ?_)⟩
 (conv => whnf)
 refine V.st ?_
 repeat ((try ((with_reducible refine .ext ?_); (conv => whnf))); (with_reducible refine jab (r := ?_) ?_ ?_); rotate_left; (focus (first | exact (ht) | exact (hp))); (conv => whnf); refine V.st ?_)
 exact Fin.of rfl
end Go.Proofs.YtgjgpdceghjajaaGreatDoor
end
