/- What functions of the program answer at given values, part 17. Conditions: those that each theorem names. -/
import Derived.Test.YtgjgpdceghjajaaGreatDoorSimplexRefinedH16
import Derived.Test.YtgjgpdceghjajaaGreatDoorSimplexRefinedH13
set_option linter.unusedSimpArgs false
set_option linter.unusedVariables false
set_option maxHeartbeats 8000000
set_option maxRecDepth 100000
section
namespace Go.Proofs.YtgjgpdceghjajaaGreatDoor
open Go Go.V Go.Nb
theorem jeE (xs ys : List Int) (ha : xs.length ≤ 100000000) (hb : ys.length ≤ 100000000) (hdx : Dg 10000 xs) (hdy : ∀ j, 0 ≤ ys.getD j 0 ∧ ys.getD j 0 ≤ 10000 ∧ (0 < j → ys.getD j 0 < 10000)) : Called Tryz.prog 143 [.ints .i64 xs, .ints .i64 ys] (.ints .i64 (mg 10000 (val 10000 xs * val 10000 ys).toNat)) := by
 have hmn : ((xs.length : Int) + (ys.length : Int)).toNat = xs.length + ys.length := by omega
 refine V.en tbOk Tryz.func143 ?_
 refine V.r0 hmn ?_
 refine jac ((0, List.replicate (xs.length + ys.length) 0) : Nat × List Int) (fun s => s.1 ≤ xs.length ∧ s.2.length = xs.length + ys.length ∧ Dg 10000 s.2 ∧ (∀ k, s.1 + ys.length ≤ k → s.2.getD k 0 = 0) ∧ val 10000 s.2 = val 10000 (xs.take s.1) * val 10000 ys) (fun s => xs.length - s.1)
  (fun s => [(6, .int .i64 s.1), (5, .osl 14 0 (xs.length + ys.length))]) (fun s => [(14, .arr .i64 s.2)]) ?_ ?_ ?_
 ·exact V.wk
 ·exact ⟨jib _, by simp, jbT (by omega) _, fun k _ => by simp [jiJ, List.getElem?_replicate]; split <;> simp, by simp [val, jew]⟩
 rintro ⟨i, out⟩ ⟨h1, h2, h3, h4, h5⟩
 dsimp only at h1 h2 h3 h4 h5 ⊢
 have vx := jai 10000 xs i
 have bx := jam (by omega) hdx i
 generalize hx0 : xs.getD i 0 = x at *
 (conv => whnf)
 refine V.st ?_
 refine V.br (fun hq => ?_) (fun hq => ?_)
 ·rw [decide_eq_true_eq] at hq
  (conv => whnf)
  refine V.st ?_
  refine jac ((0, out, 0) : Nat × List Int × Int) (fun s => s.1 ≤ ys.length ∧ s.2.1.length = xs.length + ys.length ∧ Dg 10000 s.2.1 ∧ (∀ k, i + ys.length ≤ k → s.2.1.getD k 0 = 0) ∧ (0 ≤ s.2.2 ∧ s.2.2 < 10000 ∧ (s.1 = 0 → s.2.2 = 0)) ∧ val 10000 s.2.1 + ((10000 : Nat) : Int) ^ (i + s.1) * s.2.2 = val 10000 (xs.take i) * val 10000 ys + ((10000 : Nat) : Int) ^ i * x * val 10000 (ys.take s.1)) (fun s => ys.length - s.1)
   (fun s => [(8, .int .i64 s.1), (7, .int .i64 s.2.2), (6, .int .i64 i), (5, .osl 14 0 (xs.length + ys.length))]) (fun s => [(14, .arr .i64 s.2.1)]) ?_ ?_ ?_
  ·exact V.wk
  ·exact ⟨jib _, h2, h3, h4, by simp, by simp [val, h5]⟩
  rintro ⟨j, o, c⟩ ⟨g1, g2, g3, g4, g5, g6⟩
  dsimp only at g1 g2 g3 g4 g5 g6 ⊢
  have vy := jai 10000 ys j
  have by' := hdy j
  have bo := jam (by omega) g3 (i + j)
  generalize hy0 : ys.getD j 0 = y at *
  generalize ho0 : o.getD (i + j) 0 = q at *
  have eij : ((i : Int) + (j : Int)).toNat = i + j := by omega
  have hxy : 0 ≤ x * y ∧ x * y ≤ 9999 * y := ⟨jie (by omega) (by omega), jin (by omega) (by omega)⟩
  have hkj : ((j : Int) + 1) = ((j + 1 : Nat) : Int) := by omega
  have hki : ((i : Int) + 1) = ((i + 1 : Nat) : Int) := by omega
  have ein : ((i : Int) + (ys.length : Int)).toNat = i + ys.length := by omega
  (conv => whnf)
  refine V.st ?_
  refine V.br (fun hw => ?_) (fun hw => ?_)
  ·rw [decide_eq_true_eq] at hw
   have hm : 0 ≤ (c + q + x * y) % 10000 ∧ (c + q + x * y) % 10000 < 10000 := ⟨jic _ (by omega), jiA _ (by omega)⟩
   have hc9 : 0 ≤ (c + q + x * y) / 10000 ∧ (c + q + x * y) / 10000 < 10000 := by
    rcases jij j with e | e
    ·have := g5.2.2 e
     omega
    ·have := by'.2.2 e
     omega
   have hst := jgz (B := 10000) (x := x) (y := y) (q := q) (c := c) (d := (c + q + x * y) % 10000) (c' := (c + q + x * y) / 10000) (by omega) ho0 g6 (by have := jid (c + q + x * y) 10000; omega)
   rw [← vy] at hst
   refine V.r0 (V.a7 eij @jif @jih hx0 hy0 ho0 hkj) ?_
   refine ⟨(V.tk [0,1,2,3,4,5,6,7,8,9,10,11,12,13,14,15,16,17] (V.e1 18 [] .done)), [], V.pok, .go (jad ?_)⟩
   refine V.r0 (V.a7 eij @jif @jih hx0 hy0 ho0 hkj) ?_
   exact ⟨(j + 1, o.set (i + j) ((c + q + x * y) % 10000), (c + q + x * y) / 10000), ⟨by dsimp only; omega, by dsimp only; rw [ji6]; exact g2, jdA g3 hm, fun k hk => by dsimp only; rw [jcn (by omega)]; exact g4 k hk, ⟨hc9.1, hc9.2, fun h => by simp at h⟩, hst⟩, by dsimp only; omega, V.wk⟩
  ·rw [decide_eq_false_iff_not] at hw
   have hj : j = ys.length := by omega
   subst hj
   rw [jja] at g6
   have hst := prod_end (B := 10000) (by omega) (g4 _ (jii _)) g6 hx0
   refine V.r0 (V.a3 ein @jif hki) ?_
   exact ⟨(i + 1, o.set (i + ys.length) c), ⟨by dsimp only; omega, by dsimp only; rw [ji6]; exact g2, jdA g3 ⟨g5.1, g5.2.1⟩, fun k hk => by dsimp only at hk ⊢; rw [jcn (by omega)]; exact g4 k (by omega), hst⟩, by dsimp only; omega, V.wk⟩
 ·rw [decide_eq_false_iff_not] at hq
  rw [jiZ (by omega)] at h5
  have hc := cut_c out h3 (by omega)
  rw [h5] at hc
  rw [← jja (l := out), h2] at hc
  (conv => whnf)
  refine V.st ?_
  repeat ((try ((with_reducible refine .ext ?_); (conv => whnf))); (with_reducible refine jaa (r := ?_) ?_ ?_); rotate_left; (focus (first | exact (hc))); (conv => whnf); refine V.st ?_)
  exact Fin.of rfl
theorem once_g (xs : List Int) (d : Int) (ha : xs.length ≤ 100000000) (hdx : Dg 10000 xs) (hd0 : 0 < d) (hd1 : d ≤ 10000) : Called Tryz.prog 174 [.ints .i64 xs, .int .i64 d] (.tup [.ints .i64 (mg 10000 (val 10000 xs / d).toNat), .int .i64 (val 10000 xs % d)]) := by
 have hmn : ((xs.length : Int)).toNat = xs.length := by omega
 refine V.en tbOk Tryz.func174 ?_
 refine V.r0 hmn ?_
 refine jac ((xs.length, List.replicate xs.length 0, 0) : Nat × List Int × Int) (fun s => s.1 ≤ xs.length ∧ s.2.1.length = xs.length ∧ Dg 10000 s.2.1 ∧ (0 ≤ s.2.2 ∧ s.2.2 < d) ∧ val 10000 (xs.drop s.1) = val 10000 (s.2.1.drop s.1) * d + s.2.2) (fun s => s.1)
  (fun s => [(8, .int .i64 ((s.1 : Int) - 1)), (7, .int .i64 s.2.2), (6, .osl 11 0 xs.length)]) (fun s => [(11, .arr .i64 s.2.1)]) ?_ ?_ ?_
 ·exact V.wk
 ·exact ⟨jii _, by simp, jbT (by omega) _, ⟨by simp, hd0⟩, by simp [val]⟩
 rintro ⟨k, out, r⟩ ⟨h1, h2, h3, h4, h5⟩
 dsimp only at h1 h2 h3 h4 h5 ⊢
 (conv => whnf)
 refine V.st ?_
 refine V.br (fun hq => ?_) (fun hq => ?_)
 ·rw [decide_eq_true_eq] at hq
  obtain ⟨j, rfl⟩ : ∃ j, k = j + 1 := ⟨k - 1, by omega⟩
  have hj : j < xs.length := by omega
  have bx := jam (by omega) hdx j
  generalize hx0 : xs.getD j 0 = x at *
  have e2 : (((j + 1 : Nat) : Int) - 1) = (j : Int) := by omega
  have hb := jeI (B := 10000) hd0 h4 bx
  have hst := jeH (B := 10000) hj (by omega) hx0 h5 (t := r * 10000 + x) rfl
  have hr0 : 0 ≤ r * 10000 + x := by omega
  refine V.r0 (V.a4 e2 @jif @jih hx0) ?_
  exact ⟨(j, out.set j ((r * 10000 + x) / d), (r * 10000 + x) % d), ⟨by dsimp only; omega, by dsimp only; rw [ji6]; exact h2, jdA h3 ⟨hb.1, hb.2.1⟩, ⟨hb.2.2.1, hb.2.2.2⟩, hst⟩, by dsimp only; omega, V.wk⟩
 ·rw [decide_eq_false_iff_not] at hq
  obtain rfl : k = 0 := by omega
  rw [ji3, ji3] at h5
  have e1 : val 10000 xs / d = val 10000 out := by
   rw [h5, Int.add_comm, Int.add_mul_ediv_right _ _ (by omega), Int.ediv_eq_zero_of_lt h4.1 h4.2, Int.zero_add]
  have e2 : val 10000 xs % d = r := by
   rw [h5, Int.add_comm, Int.add_mul_emod_self_right, Int.emod_eq_of_lt h4.1 h4.2]
  have hc := cut_c out h3 (by omega)
  rw [← e1, ← jja (l := out), h2] at hc
  (conv => whnf)
  refine V.st ?_
  repeat ((try ((with_reducible refine .ext ?_); (conv => whnf))); (with_reducible refine jaa (r := ?_) ?_ ?_); rotate_left; (focus (first | exact (hc))); (conv => whnf); refine V.st ?_)
  exact Fin.of (by rw [e1, e2])
theorem ja1 (B : Nat) (l : List Int) (k : Nat) : val B (l.drop k) = l.getD k 0 + B * val B (l.drop (k + 1)) := by
 rcases jip k l.length with h | h
 ·exact jbM h
 ·rw [List.drop_eq_nil_of_le h, List.drop_eq_nil_of_le (by omega), jb0 h]; simp [val]
theorem jed {B : Nat} {l : List Int} (hB : 2 ≤ B) (hd : Dg B l) (k : Nat) : val B (l.drop k) * (B : Int) ^ k ≤ val B l ∧ val B l < (val B (l.drop k) + 1) * (B : Int) ^ k := by
 rcases Nat.le_total k l.length with h | h
 ·have h1 := jbH B l k h
  have h2 := jan (jbi hd k)
  have h3 := jb2 (jbi hd k)
  rw [jiQ, Nat.min_eq_left h] at h3
  rw [jiD, jiE, h1, jiu (val B (l.drop k))]
  omega
 ·rw [List.drop_eq_nil_of_le h]
  have h2 := jan hd
  have h3 := jb2 hd
  have h4 : B ^ l.length ≤ B ^ k := jiy (by omega) h
  have h5 : ((B ^ l.length : Nat) : Int) ≤ ((B ^ k : Nat) : Int) := by exact_mod_cast h4
  rw [jiC, jiC] at h5
  simp [val]
  omega
theorem trial_ends {B F top P R b : Int} (hB : 2 ≤ B) (hP : 0 < P) (ht : B ≤ top) (hF0 : 0 ≤ F) (hb1 : top * P ≤ b) (hb2 : b < (top + 1) * P) (hR1 : F * P ≤ R) (hR2 : R < (F + 1) * P) (hlt : R < B * b) :
  0 ≤ F / (top + 1) ∧ F / (top + 1) * b ≤ R ∧ R < (F / top + 1) * b ∧ F / top + 1 ≤ B + 1 := by
 have h0 : 0 ≤ F / (top + 1) := Int.ediv_nonneg hF0 (by omega)
 refine ⟨h0, ?_, ?_, ?_⟩
 ·have h1 : F / (top + 1) * b ≤ F / (top + 1) * ((top + 1) * P) := jiw (by omega) h0
  have h2 : F / (top + 1) * (top + 1) ≤ F := Int.ediv_mul_le _ (by omega)
  have h3 : F / (top + 1) * (top + 1) * P ≤ F * P := jin h2 (by omega)
  rw [jiv] at h3
  omega
 ·have h1 : F < (F / top + 1) * top := Int.lt_ediv_add_one_mul_self _ (by omega)
  have h2 : (F + 1) * P ≤ (F / top + 1) * top * P := jin (by omega) (by omega)
  have h4 : 0 ≤ F / top := Int.ediv_nonneg hF0 (by omega)
  have h3 : (F / top + 1) * (top * P) ≤ (F / top + 1) * b := jiw hb1 (by omega)
  rw [jiv] at h2
  omega
 ·have h1 : F * P < B * (top + 1) * P := by
   have : B * b < B * ((top + 1) * P) := Int.mul_lt_mul_of_pos_left hb2 (by omega)
   rw [jiv]; omega
  have h2 := Int.lt_of_mul_lt_mul_right h1 (by omega)
  rw [jit, Int.mul_one] at h2
  have h3 : F / top < B + 1 := Int.ediv_lt_of_lt_mul (by omega) (by rw [jiD, jiE]; omega)
  omega
theorem trial_out {R b low high : Int} (hb : 0 < b) (h1 : low * b ≤ R) (h2 : R < high * b) (h3 : high - low ≤ 1) : low = R / b ∧ R - b * low = R % b := by
 have h4 : low < high := Int.lt_of_mul_lt_mul_right (Int.lt_of_le_of_lt h1 h2) (by omega)
 obtain rfl : high = low + 1 := by omega
 have h5 : low = R / b := by
  refine Int.le_antisymm ((Int.le_ediv_iff_mul_le hb).2 h1) ?_
  have := (Int.ediv_lt_iff_lt_mul hb).2 h2
  omega
 refine ⟨h5, ?_⟩
 have := jid R b
 rw [h5]; omega
theorem cut_mg (n : Nat) (h : (mg 10000 n).length ≤ 281474976710656) : Called Tryz.prog 156 [.ints .i64 (mg 10000 n)] (.ints .i64 (mg 10000 n)) := by
 have := cut_c _ (mg_dg (B := 10000) (by omega) n) h
 rw [jaC (by omega), jih] at this
 exact this
theorem parts_one (a b : Nat) (ha : (mg 10000 a).length ≤ 100000000) (hb : 0 < b) (hb1 : b < 10000) : Called Tryz.prog 141 [.ints .i64 (mg 10000 a), .ints .i64 (mg 10000 b)] (.tup [.ints .i64 (mg 10000 (a / b)), .ints .i64 (mg 10000 (a % b))]) := by
 have hmb : mg 10000 b = [(b : Int)] := by
  rw [jb7 (by omega) hb, jim hb1, Nat.div_eq_of_lt hb1]; rfl
 have ho := once_g (mg 10000 a) (b : Int) ha (mg_dg (by omega) a) (by omega) (by omega)
 rw [jaC (by omega)] at ho
 have e1 : ((a : Int) / (b : Int)).toNat = a / b := by rw [← Int.natCast_ediv, jih]
 have e2 : ((a : Int) % (b : Int)) = ((a % b : Nat) : Int) := by rw [Int.natCast_emod]
 rw [e1, e2] at ho
 have hlt : a % b < b := jik _ hb
 have hc := cut_c [((a % b : Nat) : Int)] (jau ⟨by omega, by omega⟩) (by simp)
 have e3 : (val 10000 [((a % b : Nat) : Int)]).toNat = a % b := by rw [val, val, Int.mul_zero, jiB, jih]
 rw [e3] at hc
 rw [hmb]
 refine V.en tbOk Tryz.func141 ?_
 (conv => whnf)
 refine V.st ?_
 refine Cnd.yes (by simp) ?_
 (conv => whnf)
 refine V.st ?_
 repeat ((try ((with_reducible refine .ext ?_); (conv => whnf))); (with_reducible refine jaa (r := ?_) ?_ ?_); rotate_left; (focus (first | exact (ho) | exact (hc))); (conv => whnf); refine V.st ?_)
 exact Fin.of rfl
theorem jg8 (a b : Nat) (ha : (mg 10000 a).length < (mg 10000 b).length) (hb : (mg 10000 b).length ≤ 100000000) (hb1 : 10000 ≤ b) : Called Tryz.prog 141 [.ints .i64 (mg 10000 a), .ints .i64 (mg 10000 b)] (.tup [.ints .i64 (mg 10000 (a / b)), .ints .i64 (mg 10000 (a % b))]) := by
 have hlt : a < b := Nat.lt_of_not_le fun h => by have := jaf (B := 10000) (by omega) h; omega
 have hl2 : 2 ≤ (mg 10000 b).length := by
  have := jaf (B := 10000) (by omega) hb1
  have e : mg 10000 10000 = [0, 1] := by rfl
  rw [e] at this; exact this
 rw [Nat.div_eq_of_lt hlt, jim hlt, jck]
 generalize mg 10000 a = xs at *
 generalize mg 10000 b = ys at *
 refine V.en tbOk Tryz.func141 ?_
 (conv => whnf)
 refine V.st ?_
 refine Cnd.no (by simp; omega) ?_
 (conv => whnf)
 refine V.st ?_
 refine Cnd.yes (by simp; omega) ?_
 (conv => whnf)
 refine V.st ?_
 exact Fin.tup ⟨Fin.nil _, Fin.of (by rw [List.nil_append, jif, jja]), trivial⟩
theorem zJ10_0 : type_of% @jih ∧ type_of% @jif := ⟨@jih, @jif⟩
theorem parts_long (a b : Nat) (ha : (mg 10000 b).length ≤ (mg 10000 a).length) (hb : (mg 10000 a).length ≤ 90000000) (hb1 : 10000 ≤ b) : Called Tryz.prog 141 [.ints .i64 (mg 10000 a), .ints .i64 (mg 10000 b)] (.tup [.ints .i64 (mg 10000 (a / b)), .ints .i64 (mg 10000 (a % b))]) := by
 obtain ⟨n, hn⟩ : ∃ n, (mg 10000 b).length = n + 2 := by
  have := jaf (B := 10000) (by omega) hb1
  have e : mg 10000 10000 = [0, 1] := by rfl
  rw [e] at this
  exact ⟨(mg 10000 b).length - 2, by simp at this; omega⟩
 have hdx := mg_dg (B := 10000) (by omega) a
 have hdy := mg_dg (B := 10000) (by omega) b
 have hvx := jaC (B := 10000) (by omega) a
 have hvy := jaC (B := 10000) (by omega) b
 have hlx := jdP (B := 10000) (n := a) (by omega)
 have hly := jdP (B := 10000) (n := b) (by omega)
 generalize hxs : mg 10000 a = xs at *
 generalize hys : mg 10000 b = ys at *
 have e1 : ((ys.length : Int) - 1) = ((n + 1 : Nat) : Int) := by omega
 have e2 : (((n + 1 : Nat) : Int) - 1) = (n : Int) := by omega
 have e3 : ((xs.length : Int) - ((n + 1 : Nat) : Int)) = ((xs.length - (n + 1) : Nat) : Int) := by omega
 refine V.en tbOk Tryz.func141 ?_
 (conv => whnf)
 refine V.st ?_
 refine Cnd.no (by simp; omega) ?_
 refine V.r0 (V.a4 @e1 e2 e3 @jih) ?_
 refine Cnd.no (by simp; omega) ?_
 refine V.r0 (V.a4 @e1 e2 e3 @jih) ?_
 refine ⟨(V.tk [0,1,2,3,4,5,6,7,8,9,10,11] .done), [], V.pok, .go (jad ?_)⟩
 have b1 := jam (by omega) hdy (n + 1)
 have b0 := jam (by omega) hdy n
 have htop : val 10000 (ys.drop n) = ys.getD (n + 1) 0 * 10000 + ys.getD n 0 := by
  rw [ja1, ja1, List.drop_eq_nil_of_le (by omega)]; simp [val]; omega
 have hy1 : ys.getD (n + 1) 0 ≠ 0 := by
  refine hly _ ?_
  rw [List.getLast?_eq_getElem?, hn, jiJ]
  rw [show n + 2 - 1 = n + 1 by omega, jiM (by omega)]; rfl
 have hvye := jed (B := 10000) (by omega) hdy n
 rw [htop, hvy] at hvye
 have htop1 : 10000 ≤ ys.getD (n + 1) 0 * 10000 + ys.getD n 0 := by omega
 have hbpos : 0 < b := by omega
 have hPpos : (0 : Int) < ((10000 : Nat) : Int) ^ n := jeh (by omega) n
 have hbB : b < 10000 ^ (n + 2) := by rw [← hn, ← hys]; exact jaH (by omega)
 generalize hy1' : ys.getD (n + 1) 0 = y1 at *
 generalize hy0' : ys.getD n 0 = y0 at *
 obtain ⟨R0, hR0⟩ : ∃ R0 : Nat, xs.drop (xs.length - (n + 1)) = mg 10000 R0 := ⟨_, mg_of (by omega) (jbq hdx _) fun x hx => hlx x (by
  rw [List.getLast?_drop] at hx
  split at hx
  ·cases hx
  ·exact hx)⟩
 have hR0v := congrArg (val 10000) hR0
 rw [jaC (by omega)] at hR0v
 have hR0b : R0 < b := by
  have h1 : R0 < 10000 ^ (n + 1) := by
   have := jaH (B := 10000) (n := R0) (by omega)
   rw [← hR0, ji7] at this
   exact jio this (jiy (by omega) (by omega))
  have h2 := jcz (B := 10000) (n := b) (by omega) hbpos
  rw [hys, hn] at h2
  exact jio h1 h2
 have hR0l : (mg 10000 R0).length = n + 1 := by rw [← hR0, ji7]; omega
 generalize hL : xs.length - (n + 1) = L at *
 (conv => whnf)
 (try simp only [e1, e2, e3, jih, hy1', hy0', hR0, hR0l, jif, List.nil_append])
 repeat ((first | refine V.s1 ?_); (try simp only [e1, e2, e3, jih, hy1', hy0', hR0, hR0l, jif, List.nil_append]))
 refine Lp.pub 66 ?_
 (conv => whnf)
 have hR0t : List.take (n + 1) (mg 10000 R0) = mg 10000 R0 := by rw [← hR0l, jja]
 try simp only [hR0t, jja]
 refine jac ((L, List.replicate L 0, R0) : Nat × List Int × Nat) (fun s => s.1 ≤ L ∧ s.2.1.length = L ∧ Dg 10000 s.2.1 ∧ s.2.2 < b ∧ val 10000 (xs.drop s.1) = val 10000 (s.2.1.drop s.1) * b + s.2.2) (fun s => s.1)
  (fun s => [(12, .int .i64 ((s.1 : Int) - 1)), (11, .ints .i64 (mg 10000 s.2.2)), (10, .osl 58 0 L)]) (fun s => [(58, .arr .i64 s.2.1)]) ?_ ?_ ?_
 ·exact V.wk
 ·exact ⟨jii _, by simp, jbT (by omega) _, hR0b, by rw [hR0v]; simp [val]⟩
 rintro ⟨k, q, R⟩ ⟨h1, h2, h3, h4, h5⟩
 dsimp only at h1 h2 h3 h4 h5 ⊢
 (conv => whnf)
 refine V.st ?_
 refine V.br (fun hq => ?_) (fun hq => ?_)
 ·rw [decide_eq_true_eq] at hq
  obtain ⟨j, rfl⟩ : ∃ j, k = j + 1 := ⟨k - 1, by omega⟩
  have hj : j < xs.length := by omega
  have bx := jam (by omega) hdx j
  generalize hx0 : xs.getD j 0 = x at *
  have f1 : (((j + 1 : Nat) : Int) - 1) = (j : Int) := by omega
  have hRl := jav (B := 10000) (n := R) (k := n + 2) (by omega) (by omega)
  obtain ⟨t, ht⟩ : ∃ t : Nat, x + 10000 * (R : Int) = t := ⟨(x + 10000 * (R : Int)).toNat, by omega⟩
  have hc1 := cut_c ([x] ++ mg 10000 R) (jah (jau bx) (mg_dg (by omega) R)) (by simp; omega)
  have hv1 : val 10000 ([x] ++ mg 10000 R) = t := by rw [List.singleton_append, val, jaC (by omega)]; exact ht
  rw [hv1, jih] at hc1
  have hl1 : ([x] ++ mg 10000 R).length = 1 + (mg 10000 R).length := by simp; omega
  rw [← jja (l := [x] ++ mg 10000 R), hl1] at hc1
  have htB : t < 10000 * b := by omega
  have htl := jav (B := 10000) (n := t) (k := n + 3) (by omega) (by rw [Nat.pow_succ]; omega)
  have hdt := mg_dg (B := 10000) (by omega) t
  have hvt := jaC (B := 10000) (by omega) t
  have hst := jeH (B := 10000) (d := (b : Int)) hj (by omega) hx0 h5 (t := (t : Int)) (by omega)
  generalize hts : mg 10000 t = ts at *
  refine V.r1 (V.a3 zJ10_0 f1 hx0) hc1 ?_
  have g1 : ((n + 1 : Nat) : Int) + 1 = (n : Int) + ((3 : Nat) : Int) - 1 := by omega
  try simp only [g1]
  refine jac (3 : Nat) (fun m => m ≤ 3) (fun m => m) (fun m => [(14, .int .i64 ((n : Int) + (m : Int) - 1)), (13, .int .i64 (val 10000 (ts.drop (n + m))))]) (fun _ => []) ?_ ?_ ?_
  ·rw [show val 10000 (ts.drop (n + 3)) = 0 by rw [List.drop_eq_nil_of_le htl]; rfl]
   exact V.wk
  ·exact jii _
  intro m hm
  have hF : ∀ k, n ≤ k → 0 ≤ val 10000 (ts.drop k) ∧ val 10000 (ts.drop k) < 1000000000000 := fun k hk => ⟨jan (jbq hdt k), by
   have h8 := jb2 (jbq hdt k)
   have h9 : (10000 : Nat) ^ (ts.drop k).length ≤ 10000 ^ 3 := jiy (by omega) (by rw [ji7]; omega)
   have h7 : ((10000 ^ (ts.drop k).length : Nat) : Int) ≤ ((10000 ^ 3 : Nat) : Int) := by exact_mod_cast h9
   rw [jiC] at h7
   omega⟩
  (conv => whnf)
  refine V.st ?_
  refine V.br (fun hq1 => ?_) (fun hq1 => ?_)
  ·rw [decide_eq_true_eq] at hq1
   obtain ⟨m, rfl⟩ : ∃ m', m = m' + 1 := ⟨m - 1, by omega⟩
   have g2 : (n : Int) + ((m + 1 : Nat) : Int) - 1 = ((n + m : Nat) : Int) := by omega
   have g3 : ((n + m : Nat) : Int) - 1 = (n : Int) + (m : Int) - 1 := by omega
   have hF1 := hF (n + (m + 1)) (by omega)
   have hF0 := hF (n + m) (by omega)
   have hd1 : val 10000 (ts.drop (n + (m + 1))) * 10000 + ts.getD (n + m) 0 = val 10000 (ts.drop (n + m)) := by
    rw [ja1 10000 ts (n + m), jiu, Int.add_comm]; rfl
   refine V.r0 g2 ?_
   refine V.br (fun hq2 => ?_) (fun hq2 => ?_)
   ·rw [decide_eq_true_eq] at hq2
    have bt := jam (by omega) hdt (n + m)
    refine V.r0 (V.a4 g2 g3 @jih hd1) ?_
    exact ⟨m, by omega, by omega, V.wk⟩
   ·rw [decide_eq_false_iff_not] at hq2
    rw [jb0 (by omega), jiB] at hd1
    refine V.r0 (V.a4 g2 g3 @jih hd1) ?_
    exact ⟨m, by omega, by omega, V.wk⟩
  ·rw [decide_eq_false_iff_not] at hq1
   obtain rfl : m = 0 := by omega
   have hte := jed (B := 10000) (by omega) hdt n
   rw [hvt] at hte
   have hFn := hF n (by omega)
   refine V.r0 @Nat.add_zero ?_
   refine ⟨(V.tk [0,1,2,3,4,5,6,7,8,9] .done), [], V.pok, .go (jad ?_)⟩
   have hends := trial_ends (B := 10000) (F := val 10000 (ts.drop n)) (top := y1 * 10000 + y0) (P := ((10000 : Nat) : Int) ^ n) (R := (t : Int)) (b := (b : Int)) (by omega) hPpos htop1 hFn.1 hvye.1 hvye.2 hte.1 hte.2 (by omega)
   generalize hFv : val 10000 (ts.drop n) = F at *
   refine V.r0 (V.a2 @Nat.add_zero hFv) ?_
   have hFlo : 0 ≤ F / (y1 * 10000 + y0) := Int.ediv_nonneg (by omega) (by omega)
   refine jac ((F / (y1 * 10000 + y0 + 1), F / (y1 * 10000 + y0) + 1) : Int × Int) (fun s => 0 ≤ s.1 ∧ s.1 * b ≤ t ∧ t < s.2 * b ∧ s.2 ≤ 10001) (fun s => (s.2 - s.1).toNat) (fun s => [(16, .int .i64 s.2), (15, .int .i64 s.1)]) (fun _ => []) ?_ ?_ ?_
   ·exact V.wk
   ·exact ⟨hends.1, hends.2.1, hends.2.2.1, by dsimp only; omega⟩
   rintro ⟨low, high⟩ ⟨i1, i2, i3, i4⟩
   dsimp only at i1 i2 i3 i4 ⊢
   have hlh : low < high := Int.lt_of_mul_lt_mul_right (Int.lt_of_le_of_lt i2 i3) (by omega)
   (conv => whnf)
   refine V.st ?_
   refine V.br (fun hq3 => ?_) (fun hq3 => ?_)
   ·rw [decide_eq_true_eq] at hq3
    obtain ⟨m, hm2⟩ : ∃ m : Nat, (low + high) / 2 = m := ⟨((low + high) / 2).toNat, by omega⟩
    have hp := jeE ys [(m : Int)] (by omega) (by simp) hdy (fun j => by
     cases j with
     | zero => simp; omega
     | succ j => simp)
    have hpv : (val 10000 ys * val 10000 [(m : Int)]).toNat = b * m := by
     rw [hvy, val, val, Int.mul_zero, jiB, ← jis, jih]
    rw [hpv] at hp
    have hpl := jav (B := 10000) (n := b * m) (k := n + 4) (by omega) (by
     have h8 : b * m ≤ b * 10000 := Nat.mul_le_mul_left _ (by omega)
     rw [Nat.pow_succ, Nat.pow_succ]; omega)
    have hcm := cut_mg (b * m) (by omega)
    have ho := order_c (mg 10000 (b * m)) ts (by omega) (by omega) (mg_dg (by omega) _) hdt
    have hsg := jgA (b * m) t
    rw [hts] at hsg
    generalize ordV (mg 10000 (b * m)) ts = od at *
    have hbm : (m : Int) * (b : Int) = ((b * m : Nat) : Int) := by rw [jil, jis]
    refine V.r3 hm2 hp hcm ho ?_
    refine V.br (fun hq4 => ?_) (fun hq4 => ?_)
    ·rw [decide_eq_true_eq] at hq4
     (conv => whnf)
     refine V.st ?_
     exact ⟨((m : Int), high), ⟨by dsimp only; omega, by dsimp only; omega, i3, i4⟩, by dsimp only; omega, V.wk⟩
    ·rw [decide_eq_false_iff_not] at hq4
     (conv => whnf)
     refine V.st ?_
     exact ⟨(low, (m : Int)), ⟨i1, i2, by dsimp only; omega, by dsimp only; omega⟩, by dsimp only; omega, V.wk⟩
   ·rw [decide_eq_false_iff_not] at hq3
    have hout := trial_out (R := (t : Int)) (b := (b : Int)) (by omega) i2 i3 (by omega)
    obtain ⟨lw, rfl⟩ : ∃ lw : Nat, low = lw := ⟨low.toNat, by omega⟩
    have hlwB : lw < 10000 := by
     have h8 : (lw : Int) * b < 10000 * b := by omega
     have := Int.lt_of_mul_lt_mul_right h8 (by omega)
     omega
    have hp := jeE ys [(lw : Int)] (by omega) (by simp) hdy (fun j => by
     cases j with
     | zero => simp; omega
     | succ j => simp)
    have hpv : (val 10000 ys * val 10000 [(lw : Int)]).toNat = b * lw := by
     rw [hvy, val, val, Int.mul_zero, jiB, ← jis, jih]
    rw [hpv] at hp
    have hble : b * lw ≤ t := by
     rw [← jis] at i2
     have := Int.ofNat_le.1 i2
     rw [jil]; exact this
    have hdf := jcJ t (b * lw) hble (by rw [hts]; omega)
    rw [hts] at hdf
    have hmod : ((t % b : Nat) : Int) = (t : Int) % (b : Int) := Int.natCast_emod _ _
    have hmod2 : t - b * lw = t % b := by
     have h8 := hout.2
     rw [← jis] at h8
     omega
    rw [hmod2] at hdf
    refine V.r2 (V.a2 zJ10_0 f1) hp hdf ?_
    rw [← hout.1, ← hmod] at hst
    exact ⟨(j, q.set j (lw : Int), t % b), ⟨by dsimp only; omega, by dsimp only; rw [ji6]; exact h2, jdA h3 (by omega), jik _ hbpos, hst⟩, by dsimp only; omega, V.wk⟩
 ·rw [decide_eq_false_iff_not] at hq
  obtain rfl : k = 0 := by omega
  rw [ji3, ji3, hvx] at h5
  have hvq := jan h3
  obtain ⟨w, hw⟩ : ∃ w : Nat, val 10000 q = w := ⟨(val 10000 q).toNat, by omega⟩
  rw [hw, ← jis] at h5
  have h6 : a = w * b + R := by omega
  have e8 : a / b = w := by rw [h6, Nat.add_comm, Nat.add_mul_div_right _ _ hbpos, Nat.div_eq_of_lt h4, jif]
  have e9 : a % b = R := by rw [h6, Nat.add_comm, Nat.add_mul_mod_self_right, jim h4]
  have hc := cut_c q h3 (by omega)
  rw [hw, jih, ← jja (l := q), h2] at hc
  (conv => whnf)
  refine V.st ?_
  repeat ((try ((with_reducible refine .ext ?_); (conv => whnf))); (with_reducible refine jaa (r := ?_) ?_ ?_); rotate_left; (focus (first | exact (hc))); (conv => whnf); refine V.st ?_)
  exact Fin.of (by rw [e8, e9])
theorem parts_c (a b : Nat) (ha : (mg 10000 a).length ≤ 90000000) (hb : (mg 10000 b).length ≤ 90000000) (hb0 : 0 < b) : Called Tryz.prog 141 [.ints .i64 (mg 10000 a), .ints .i64 (mg 10000 b)] (.tup [.ints .i64 (mg 10000 (a / b)), .ints .i64 (mg 10000 (a % b))]) := by
 rcases jip b 10000 with h | h
 ·exact parts_one a b (by omega) hb0 h
 ·rcases jip (mg 10000 a).length (mg 10000 b).length with h2 | h2
  ·exact jg8 a b h2 (by omega) h
  ·exact parts_long a b h2 ha h
def Sm (k : Nat) (z : Int) : Prop := (mg 10000 z.natAbs).length ≤ k
theorem jcP {B : Nat} (hB : 2 ≤ B) (a b : Nat) : (mg B (a + b)).length ≤ max (mg B a).length (mg B b).length + 1 := by
 have h1 := jaH (B := B) (n := a) hB
 have h2 := jaH (B := B) (n := b) hB
 have h3 : B ^ (mg B a).length ≤ B ^ max (mg B a).length (mg B b).length := jiy (by omega) (by omega)
 have h4 : B ^ (mg B b).length ≤ B ^ max (mg B a).length (mg B b).length := jiy (by omega) (by omega)
 refine jav hB ?_
 rw [Nat.pow_succ]
 have h5 := Nat.mul_le_mul_left (B ^ max (mg B a).length (mg B b).length) hB
 omega
theorem jbE {B : Nat} (hB : 2 ≤ B) (a b : Nat) : (mg B (a * b)).length ≤ (mg B a).length + (mg B b).length := by
 have h1 := jaH (B := B) (n := a) hB
 have h2 := jaH (B := B) (n := b) hB
 refine jav hB ?_
 rw [Nat.pow_add]
 exact Nat.mul_lt_mul'' h1 h2
theorem Sm.mono {k l : Nat} {z : Int} (h : Sm k z) (hl : k ≤ l) : Sm l z := jiq h hl
theorem Sm.neg {k : Nat} {z : Int} (h : Sm k z) : Sm k (-z) := by unfold Sm at *; rw [Int.natAbs_neg]; exact h
theorem Sm.le {k : Nat} {y z : Int} (h : Sm k z) (hy : y.natAbs ≤ z.natAbs) : Sm k y := jiq (jaf (by omega) hy) h
theorem Sm.mul {k l : Nat} {y z : Int} (h : Sm k y) (h2 : Sm l z) : Sm (k + l) (y * z) := by
 unfold Sm at *
 rw [Int.natAbs_mul]
 have := jbE (B := 10000) (by omega) y.natAbs z.natAbs
 omega
theorem Sm.add {k : Nat} {y z : Int} (h : Sm k y) (h2 : Sm k z) : Sm (k + 1) (y + z) := by
 unfold Sm at *
 have h3 := jcP (B := 10000) (by omega) y.natAbs z.natAbs
 have h4 := jaf (B := 10000) (by omega) (Int.natAbs_add_le y z)
 omega
theorem Sm.lit {k : Nat} {z : Int} (h : z.natAbs < 10000 ^ k) : Sm k z := jav (by omega) h
theorem jdQ (b : Bool) (n : Nat) (h : (mg 10000 n).length ≤ 200000000) : Called Tryz.prog 117 [.bool b, .ints .i64 (mg 10000 n)] (plD (if b then -(n : Int) else n)) := by
 have := jeL b (mg 10000 n) (mg_dg (by omega) n) (by omega)
 rw [jaC (by omega)] at this
 exact this
theorem plus_c (x y : Int) (hx : Sm 90000000 x) (hy : Sm 90000000 y) : Called Tryz.prog 118 [plD x, plD y] (plD (x + y)) := by
 unfold Sm at hx hy
 have hl := jcP (B := 10000) (by omega) x.natAbs y.natAbs
 have hs := sum_c x.natAbs y.natAbs (by omega) (by omega)
 have ho := order_c (mg 10000 x.natAbs) (mg 10000 y.natAbs) (by omega) (by omega) (mg_dg (by omega) _) (mg_dg (by omega) _)
 have hsg := jgA x.natAbs y.natAbs
 generalize ordV (mg 10000 x.natAbs) (mg 10000 y.natAbs) = od at *
 rw [show plD x = .agg [.bool (decide (x < 0)), .ints .i64 (mg 10000 x.natAbs)] from rfl, show plD y = .agg [.bool (decide (y < 0)), .ints .i64 (mg 10000 y.natAbs)] from rfl]
 refine V.en tbOk Tryz.func118 ?_
 (conv => whnf)
 refine V.st ?_
 refine V.br (fun hq => ?_) (fun hq => ?_)
 ·rw [beq_iff_eq, decide_eq_decide] at hq
  have hm := jdQ (decide (x < 0)) (x.natAbs + y.natAbs) (by omega)
  have e : (if decide (x < 0) = true then -((x.natAbs + y.natAbs : Nat) : Int) else ((x.natAbs + y.natAbs : Nat) : Int)) = x + y := by
   by_cases h : x < 0
   ·simp [h]; omega
   ·simp [h]; omega
  rw [e] at hm
  (conv => whnf)
  refine V.st ?_
  refine ⟨(V.tk [0,1,2,3,4,5] (V.e1 6 [1,0] (V.e1 7 [] (V.e1 8 [] .done)))), [], V.pok, .go (jad ?_)⟩
  (conv => whnf)
  refine V.st ?_
  repeat ((try ((with_reducible refine .ext ?_); (conv => whnf))); (with_reducible refine jaa (r := ?_) ?_ ?_); rotate_left; (focus (first | exact (hs) | exact (hm))); (conv => whnf); refine V.st ?_)
  exact Fin.of rfl
 ·have hq' : ¬ (x < 0 ↔ y < 0) := fun h => by rw [beq_eq_false_iff_ne] at hq; exact hq (decide_eq_decide.2 h)
  (conv => whnf)
  refine V.st ?_
  repeat ((try ((with_reducible refine .ext ?_); (conv => whnf))); (with_reducible refine jaa (r := ?_) ?_ ?_); rotate_left; (focus (first | exact (ho))); (conv => whnf); refine V.st ?_)
  refine V.br (fun hq2 => ?_) (fun hq2 => ?_)
  ·rw [decide_eq_true_eq] at hq2
   have hd := jcJ x.natAbs y.natAbs (by omega) (by omega)
   have hl2 := jaf (B := 10000) (by omega) (Nat.sub_le x.natAbs y.natAbs)
   have hm := jdQ (decide (x < 0)) (x.natAbs - y.natAbs) (by omega)
   have e : (if decide (x < 0) = true then -((x.natAbs - y.natAbs : Nat) : Int) else ((x.natAbs - y.natAbs : Nat) : Int)) = x + y := by
    by_cases h : x < 0
    ·simp [h]; omega
    ·simp [h]; omega
   rw [e] at hm
   (conv => whnf)
   refine V.st ?_
   refine ⟨(V.tk [0,1,2,3,4,5] (V.e1 6 [1,0] (V.e1 7 [] (V.e1 8 [] .done)))), [], V.pok, .go (jad ?_)⟩
   (conv => whnf)
   refine V.st ?_
   repeat ((try ((with_reducible refine .ext ?_); (conv => whnf))); (with_reducible refine jaa (r := ?_) ?_ ?_); rotate_left; (focus (first | exact (hd) | exact (hm))); (conv => whnf); refine V.st ?_)
   exact Fin.of rfl
  ·rw [decide_eq_false_iff_not] at hq2
   have hd := jcJ y.natAbs x.natAbs (by omega) (by omega)
   have hl2 := jaf (B := 10000) (by omega) (Nat.sub_le y.natAbs x.natAbs)
   have hm := jdQ (decide (y < 0)) (y.natAbs - x.natAbs) (by omega)
   have e : (if decide (y < 0) = true then -((y.natAbs - x.natAbs : Nat) : Int) else ((y.natAbs - x.natAbs : Nat) : Int)) = x + y := by
    by_cases h : y < 0
    ·simp [h]; omega
    ·simp [h]; omega
   rw [e] at hm
   (conv => whnf)
   refine V.st ?_
   refine ⟨(V.tk [0,1,2,3,4,5] (V.e1 6 [1,0] (V.e1 7 [] (V.e1 8 [] .done)))), [], V.pok, .go (jad ?_)⟩
   (conv => whnf)
   refine V.st ?_
   repeat ((try ((with_reducible refine .ext ?_); (conv => whnf))); (with_reducible refine jaa (r := ?_) ?_ ?_); rotate_left; (focus (first | exact (hd) | exact (hm))); (conv => whnf); refine V.st ?_)
   exact Fin.of rfl
theorem minus_c (x y : Int) (hx : Sm 90000000 x) (hy : Sm 90000000 y) : Called Tryz.prog 142 [plD x, plD y] (plD (x - y)) := by
 have ht := turn_c y (by unfold Sm at hy; omega)
 have hp := plus_c x (-y) hx hy.neg
 rw [show x + -y = x - y by omega] at hp
 rw [show plD x = .agg [.bool (decide (x < 0)), .ints .i64 (mg 10000 x.natAbs)] from rfl, show plD y = .agg [.bool (decide (y < 0)), .ints .i64 (mg 10000 y.natAbs)] from rfl] at *
 refine V.en tbOk Tryz.func142 ?_
 (conv => whnf)
 refine V.st ?_
 refine ⟨(V.tk [0,1] (V.e1 2 [0] (V.e1 3 [] (V.e1 4 [] .done)))), [], V.pok, .go (jad ?_)⟩
 (conv => whnf)
 refine V.st ?_
 repeat ((try ((with_reducible refine .ext ?_); (conv => whnf))); (with_reducible refine jaa (r := ?_) ?_ ?_); rotate_left; (focus (first | exact (ht) | exact (hp))); (conv => whnf); refine V.st ?_)
 exact Fin.of rfl
theorem jaY {a b X Y : Int} (hb : b ≠ 0) (h : a = Y + b * X) (h0 : 0 ≤ Y) (h1 : Y < b.natAbs) : a / b = X ∧ a % b = Y := by
 have hm : a % b = Y := by
  rw [h, Int.add_mul_emod_self_left]
  rcases Int.lt_or_lt_of_ne hb with h2 | h2
  ·rw [← Int.emod_neg, Int.emod_eq_of_lt h0 (by omega)]
  ·exact Int.emod_eq_of_lt h0 (by omega)
 refine ⟨?_, hm⟩
 have h3 := jid a b
 rw [hm] at h3
 exact Int.eq_of_mul_eq_mul_left hb (by omega)
theorem jg9 (a b : Int) (hb : b ≠ 0) (x0 y0 : Int) (hx : x0 = if (decide (a < 0) != decide (b < 0)) = true then -((a.natAbs / b.natAbs : Nat) : Int) else ((a.natAbs / b.natAbs : Nat) : Int))
  (hy : y0 = if decide (a < 0) = true then -((a.natAbs % b.natAbs : Nat) : Int) else ((a.natAbs % b.natAbs : Nat) : Int)) :
  (y0 < 0 → a % b = y0 + b.natAbs ∧ (b < 0 → a / b = x0 + 1) ∧ (¬ b < 0 → a / b = x0 - 1)) ∧ (¬ y0 < 0 → a % b = y0 ∧ a / b = x0) := by
 have h1 := Nat.mod_add_div a.natAbs b.natAbs
 have h2 : a.natAbs % b.natAbs < b.natAbs := jik _ (by omega)
 generalize a.natAbs % b.natAbs = r at *
 generalize a.natAbs / b.natAbs = q at *
 have h3 : (a.natAbs : Int) = r + (b.natAbs : Int) * q := by rw [← jis, ← Int.natCast_add, h1]
 have hmul1 : b * ((q : Int) + 1) = b * q + b := by rw [jit, Int.mul_one]
 have hmul2 : b * (-(q : Int) + 1) = -(b * q) + b := by rw [jit, Int.mul_one, Int.mul_neg]
 have hmul3 : b * ((q : Int) - 1) = b * q - b := by rw [Int.mul_sub, Int.mul_one]
 have hmul4 : b * (-(q : Int) - 1) = -(b * q) - b := by rw [Int.mul_sub, Int.mul_one, Int.mul_neg]
 have hmul5 : b * (-(q : Int)) = -(b * q) := by rw [Int.mul_neg]
 by_cases ha : a < 0 <;> by_cases hbn : b < 0
 ·have e1 : (b.natAbs : Int) = -b := by omega
  rw [e1, Int.neg_mul] at h3
  simp only [ha, hbn, decide_true, bne_self_eq_false, Bool.false_eq_true, if_false, if_true] at hx hy
  subst hx hy
  refine ⟨fun h => ?_, fun h => ?_⟩
  ·have := jaY (a := a) (b := b) (X := (q : Int) + 1) (Y := -(r : Int) + b.natAbs) hb (by omega) (by omega) (by omega)
   exact ⟨this.2, fun _ => this.1, fun h => absurd hbn h⟩
  ·have := jaY (a := a) (b := b) (X := (q : Int)) (Y := -(r : Int)) hb (by omega) (by omega) (by omega)
   exact ⟨this.2, this.1⟩
 ·have e1 : (b.natAbs : Int) = b := by omega
  rw [e1] at h3
  simp only [ha, hbn, decide_true, decide_false, bne, beq_eq_false_iff_ne, ne_eq, Bool.true_eq_false, not_false_eq_true, if_true, Bool.not_false, beq_false] at hx hy
  have hx' : x0 = -(q : Int) := by simpa using hx
  subst hx' hy
  refine ⟨fun h => ?_, fun h => ?_⟩
  ·have := jaY (a := a) (b := b) (X := -(q : Int) - 1) (Y := -(r : Int) + b.natAbs) hb (by omega) (by omega) (by omega)
   exact ⟨this.2, fun h => absurd h hbn, fun _ => this.1⟩
  ·have := jaY (a := a) (b := b) (X := -(q : Int)) (Y := -(r : Int)) hb (by omega) (by omega) (by omega)
   exact ⟨this.2, this.1⟩
 ·have e1 : (b.natAbs : Int) = -b := by omega
  rw [e1, Int.neg_mul] at h3
  have hx' : x0 = -(q : Int) := by simpa [ha, hbn] using hx
  have hy' : y0 = (r : Int) := by simpa [ha] using hy
  subst hx' hy'
  refine ⟨fun h => by omega, fun h => ?_⟩
  have := jaY (a := a) (b := b) (X := -(q : Int)) (Y := (r : Int)) hb (by omega) (by omega) (by omega)
  exact ⟨this.2, this.1⟩
 ·have e1 : (b.natAbs : Int) = b := by omega
  rw [e1] at h3
  have hx' : x0 = (q : Int) := by simpa [ha, hbn] using hx
  have hy' : y0 = (r : Int) := by simpa [ha] using hy
  subst hx' hy'
  refine ⟨fun h => by omega, fun h => ?_⟩
  have := jaY (a := a) (b := b) (X := (q : Int)) (Y := (r : Int)) hb (by omega) (by omega) (by omega)
  exact ⟨this.2, this.1⟩
theorem jei (x y : Int) (hx : Sm 80000000 x) (hy : Sm 80000000 y) (hy0 : y ≠ 0) : Called Tryz.prog 122 [plD x, plD y] (.tup [plD (x / y), plD (x % y)]) := by
 unfold Sm at hx hy
 have hp := parts_c x.natAbs y.natAbs (by omega) (by omega) (by omega)
 have hq := jaf (B := 10000) (by omega) (jiz x.natAbs y.natAbs)
 have hr := jaf (B := 10000) (by omega) (Nat.mod_le x.natAbs y.natAbs)
 have hm1 := jdQ (decide (x < 0) != decide (y < 0)) (x.natAbs / y.natAbs) (by omega)
 have hm2 := jdQ (decide (x < 0)) (x.natAbs % y.natAbs) (by omega)
 have hpl := jg9 x y hy0 _ _ rfl rfl
 have hsx : Sm 80000000 (if (decide (x < 0) != decide (y < 0)) = true then -((x.natAbs / y.natAbs : Nat) : Int) else ((x.natAbs / y.natAbs : Nat) : Int)) := by
  unfold Sm; split <;> simp only [Int.natAbs_neg, jix] <;> omega
 have hsy : Sm 80000000 (if decide (x < 0) = true then -((x.natAbs % y.natAbs : Nat) : Int) else ((x.natAbs % y.natAbs : Nat) : Int)) := by
  unfold Sm; split <;> simp only [Int.natAbs_neg, jix] <;> omega
 generalize (if (decide (x < 0) != decide (y < 0)) = true then -((x.natAbs / y.natAbs : Nat) : Int) else ((x.natAbs / y.natAbs : Nat) : Int)) = x0 at *
 generalize (if decide (x < 0) = true then -((x.natAbs % y.natAbs : Nat) : Int) else ((x.natAbs % y.natAbs : Nat) : Int)) = y0 at *
 rw [show plD x = .agg [.bool (decide (x < 0)), .ints .i64 (mg 10000 x.natAbs)] from rfl, show plD y = .agg [.bool (decide (y < 0)), .ints .i64 (mg 10000 y.natAbs)] from rfl] at *
 refine V.en tbOk Tryz.func122 ?_
 (conv => whnf)
 refine V.st ?_
 repeat ((try ((with_reducible refine .ext ?_); (conv => whnf))); (with_reducible refine jaa (r := ?_) ?_ ?_); rotate_left; (focus (first | exact (hp))); (conv => whnf); refine V.st ?_)
 rw [show plD x0 = .agg [.bool (decide (x0 < 0)), .ints .i64 (mg 10000 x0.natAbs)] from rfl] at hm1
 rw [show plD y0 = .agg [.bool (decide (y0 < 0)), .ints .i64 (mg 10000 y0.natAbs)] from rfl] at hm2
 refine ⟨(V.tk [0,1,2,3,4,5,7,8,9] (.ev (.cons 6 [9,8,7] (.ev (.cons 10 [] (.ev (.cons 11 [] (V.e1 12 [] (V.e1 13 [] (V.e1 14 [] .done))) (.cons 12 [] (V.e1 11 [] (V.e1 13 [] (V.e1 14 [] .done))) .nil))) (.cons 11 [9,8,7] (.ev (.cons 10 [] (V.e1 12 [] (V.e1 13 [] (V.e1 14 [] .done))) (.cons 12 [9,8,7] (V.e1 10 [] (V.e1 13 [] (V.e1 14 [] .done))) .nil))) (.cons 12 [9,8,7] (.ev (.cons 10 [] (V.e1 11 [] (V.e1 13 [] (V.e1 14 [] .done))) (.cons 11 [9,8,7] (V.e1 10 [] (V.e1 13 [] (V.e1 14 [] .done))) .nil))) .nil)))) (.cons 11 [9,8,7,5,4,3,2,1,0] (.ev (.cons 6 [9,8,7] (.ev (.cons 10 [] (V.e1 12 [] (V.e1 13 [] (V.e1 14 [] .done))) (.cons 12 [9,8,7] (V.e1 10 [] (V.e1 13 [] (V.e1 14 [] .done))) .nil))) (.cons 12 [9,8,7,5,4,3,2,1,0] (V.e1 6 [9,8,7] (V.e1 10 [] (V.e1 13 [] (V.e1 14 [] .done)))) .nil))) (.cons 12 [9,8,7,5,4,3,2,1,0] (.ev (.cons 6 [9,8,7] (.ev (.cons 10 [] (V.e1 11 [] (V.e1 13 [] (V.e1 14 [] .done))) (.cons 11 [9,8,7] (V.e1 10 [] (V.e1 13 [] (V.e1 14 [] .done))) .nil))) (.cons 11 [9,8,7,5,4,3,2,1,0] (V.e1 6 [9,8,7] (V.e1 10 [] (V.e1 13 [] (V.e1 14 [] .done)))) .nil))) .nil))))), [], V.pok, ?_⟩
 refine jab [(8, .box 8 0), (9, .box 9 0)] [(8, .box [.bool (decide (x0 < 0)), .ints .i64 (mg 10000 x0.natAbs)]), (9, .box [.bool (decide (y0 < 0)), .ints .i64 (mg 10000 y0.natAbs)])] ?_ ?_
 ·exact V.d2 @jif hm1 hm2
 (conv => whnf)
 refine V.st ?_
 refine V.br (fun hq => ?_) (fun hq => ?_)
 ·rw [decide_eq_true_eq] at hq
  have hpl := hpl.1 hq
  have hy1 : y0 + (y.natAbs : Int) = x % y := by omega
  have hc1 := plus_c y0 (y.natAbs : Int) (hsy.mono (by omega)) (by unfold Sm; rw [jix]; omega)
  rw [hy1] at hc1
  rw [show plD y0 = .agg [.bool (decide (y0 < 0)), .ints .i64 (mg 10000 y0.natAbs)] from rfl, show plD (y.natAbs : Int) = .agg [.bool false, .ints .i64 (mg 10000 y.natAbs)] by unfold plD; rw [jix, decide_eq_false (by omega)], show plD (x % y) = .agg [.bool (decide (x % y < 0)), .ints .i64 (mg 10000 (x % y).natAbs)] from rfl] at hc1
  have hi := jeQ 1 ⟨by decide, by decide⟩
  (conv => whnf)
  refine V.st ?_
  repeat ((try ((with_reducible refine .ext ?_); (conv => whnf))); (with_reducible refine jaa (r := ?_) ?_ ?_); rotate_left; (focus (first | exact (hc1))); (conv => whnf); refine V.st ?_)
  refine V.br (fun hq2 => ?_) (fun hq2 => ?_)
  ·rw [decide_eq_true_eq] at hq2
   have hc2 := plus_c x0 1 (hsx.mono (by omega)) ((Sm.lit (k := 1) (by decide)).mono (by omega))
   rw [← hpl.2.1 hq2, show plD x0 = .agg [.bool (decide (x0 < 0)), .ints .i64 (mg 10000 x0.natAbs)] from rfl, show plD (x / y) = .agg [.bool (decide (x / y < 0)), .ints .i64 (mg 10000 (x / y).natAbs)] from rfl] at hc2
   (conv => whnf)
   refine V.st ?_
   refine ⟨(V.tk [0] (V.e1 1 [0] (V.e1 2 [] (V.e1 3 [] .done)))), [], V.pok, .go (jad ?_)⟩
   (conv => whnf)
   refine V.st ?_
   repeat ((try ((with_reducible refine .ext ?_); (conv => whnf))); (with_reducible refine jaa (r := ?_) ?_ ?_); rotate_left; (focus (first | exact (hi) | exact (hc2))); (conv => whnf); refine V.st ?_)
   refine ⟨(V.tk [0,1] (V.e1 2 [1] (V.e1 3 [] .done))), [], V.pok, .go (jad ?_)⟩
   (conv => whnf)
   refine V.st ?_
   exact Fin.of rfl
  ·rw [decide_eq_false_iff_not] at hq2
   have hc2 := minus_c x0 1 (hsx.mono (by omega)) ((Sm.lit (k := 1) (by decide)).mono (by omega))
   rw [← hpl.2.2 hq2, show plD x0 = .agg [.bool (decide (x0 < 0)), .ints .i64 (mg 10000 x0.natAbs)] from rfl, show plD (x / y) = .agg [.bool (decide (x / y < 0)), .ints .i64 (mg 10000 (x / y).natAbs)] from rfl] at hc2
   (conv => whnf)
   refine V.st ?_
   refine ⟨(V.tk [0] (V.e1 1 [0] (V.e1 2 [] (V.e1 3 [] .done)))), [], V.pok, .go (jad ?_)⟩
   (conv => whnf)
   refine V.st ?_
   repeat ((try ((with_reducible refine .ext ?_); (conv => whnf))); (with_reducible refine jaa (r := ?_) ?_ ?_); rotate_left; (focus (first | exact (hi) | exact (hc2))); (conv => whnf); refine V.st ?_)
   refine ⟨(V.tk [0,1] (V.e1 2 [1] (V.e1 3 [] .done))), [], V.pok, .go (jad ?_)⟩
   (conv => whnf)
   refine V.st ?_
   exact Fin.of rfl
 ·rw [decide_eq_false_iff_not] at hq
  have hpl := hpl.2 hq
  rw [← hpl.1, ← hpl.2]
  (conv => whnf)
  refine V.st ?_
  refine ⟨(V.tk [0,1] (V.e1 2 [1] (V.e1 3 [] .done))), [], V.pok, .go (jad ?_)⟩
  (conv => whnf)
  refine V.st ?_
  exact Fin.of rfl
theorem je4 (x y : Int) (hx : Sm 80000000 x) (hy : Sm 80000000 y) : Called Tryz.prog 107 [plD x, plD y] (plD (Int.gcd x y)) := by
 unfold Sm at hx hy
 rw [show plD x = .agg [.bool (decide (x < 0)), .ints .i64 (mg 10000 x.natAbs)] from rfl, show plD y = .agg [.bool (decide (y < 0)), .ints .i64 (mg 10000 y.natAbs)] from rfl]
 refine V.en tbOk Tryz.func107 ?_
 (conv => whnf)
 refine V.st ?_
 refine ⟨(V.tk [0,1,2,3,4,5] .done), [], V.pok, .go (jad ?_)⟩
 refine V.st ?_
 refine jac ((x.natAbs, y.natAbs) : Nat × Nat) (fun s => Nat.gcd s.1 s.2 = Int.gcd x y ∧ (mg 10000 s.1).length ≤ 80000000 ∧ (mg 10000 s.2).length ≤ 80000000) (fun s => s.2)
  (fun s => [(6, .ints .i64 (mg 10000 s.2)), (5, .ints .i64 (mg 10000 s.1))]) (fun _ => []) ?_ ?_ ?_
 ·exact V.wk
 ·exact ⟨rfl, hx, hy⟩
 rintro ⟨a, b⟩ ⟨h1, h2, h3⟩
 dsimp only at h1 h2 h3 ⊢
 have hnil := jb8 (B := 10000) (n := b) (by omega)
 rw [← jiK] at hnil
 (conv => whnf)
 refine V.st ?_
 refine V.br (fun hq => ?_) (fun hq => ?_)
 ·rw [decide_eq_true_eq] at hq
  have hb : 0 < b := by omega
  have hp := parts_c a b (by omega) (by omega) hb
  have hr := jaf (B := 10000) (by omega) (Nat.le_of_lt (jik a hb))
  (conv => whnf)
  refine V.st ?_
  repeat ((try ((with_reducible refine .ext ?_); (conv => whnf))); (with_reducible refine jaa (r := ?_) ?_ ?_); rotate_left; (focus (first | exact (hp))); (conv => whnf); refine V.st ?_)
  exact ⟨(b, a % b), ⟨by dsimp only; rw [Nat.gcd_comm, ← Nat.gcd_rec, Nat.gcd_comm]; exact h1, h3, by dsimp only; omega⟩, jik _ hb, V.wk⟩
 ·rw [decide_eq_false_iff_not] at hq
  obtain rfl : b = 0 := hnil.1 (by omega)
  rw [Nat.gcd_zero_right] at h1
  (conv => whnf)
  refine V.st ?_
  exact Fin.of (by unfold plD; rw [jix, h1, decide_eq_false (by omega)])
end Go.Proofs.YtgjgpdceghjajaaGreatDoor
end
