/- What functions of the program answer at given values, part 19. Conditions: those that each theorem names. -/
import Derived.Test.YtgjgpdceghjajaaGreatDoorSimplexRefinedH17
import Derived.Test.YtgjgpdceghjajaaGreatDoorSimplexRefinedH18
import Derived.Test.YtgjgpdceghjajaaGreatDoorSimplexRefinedH13
set_option linter.unusedSimpArgs false
set_option linter.unusedVariables false
set_option maxHeartbeats 8000000
set_option maxRecDepth 100000
section
namespace Go.Proofs.YtgjgpdceghjajaaGreatDoor
open Go Go.V Go.Nb
theorem red_a {P W V q c b mid wlo un : Int} (hP : 0 < P) (hV0 : 0 < V) (hVP : V ≤ P) (hW : W = wlo + un * P) (hmid : mid - (c + b) * P = wlo - q * V) (hm0 : 0 ≤ mid) (hq : W / V ≤ q) (h : c + b ≤ un) : q = W / V ∧ mid = W % V := by
 have h1 := jid W V
 have h2 := jiA W hV0
 have h3 : W - q * V = mid + (un - (c + b)) * P := by rw [Int.sub_mul]; omega
 have h4 : 0 ≤ (q - W / V) * V := jie (by omega) (by omega)
 rw [Int.sub_mul, jiu (W / V)] at h4
 have h5 : un - (c + b) = 0 := by
  rcases Int.lt_or_le 0 (un - (c + b)) with h6 | h6
  ·have h7 : 1 * P ≤ (un - (c + b)) * P := jin (by omega) (by omega)
   omega
  ·omega
 rw [h5, Int.zero_mul, jiB] at h3
 have h8 : q ≤ W / V := (Int.le_ediv_iff_mul_le hV0).2 (by omega)
 have h9 : q = W / V := by omega
 refine ⟨h9, ?_⟩
 rw [h9, jiu] at h3
 omega
theorem red_b {P W V q c b mid mid2 over wlo un : Int} (hP : 0 < P) (hV0 : 0 < V) (hVP : V ≤ P) (hW : W = wlo + un * P) (hmid : mid - (c + b) * P = wlo - q * V) (hm1 : mid < P) (hq1 : (q - 1) * V ≤ W) (h : un < c + b)
  (h2 : mid2 + over * P = mid + V) (h20 : 0 ≤ mid2) (h21 : mid2 < P) : q - 1 = W / V ∧ mid2 = W % V := by
 have h1 := jid W V
 have h3 := jiA W hV0
 have h30 := jic W (by omega : V ≠ 0)
 have h4 : W - q * V = mid + (un - (c + b)) * P := by rw [Int.sub_mul]; omega
 have h5 : 1 * P ≤ (c + b - un) * P := jin (by omega) (by omega)
 have h6 : (un - (c + b)) * P = -((c + b - un) * P) := by rw [← Int.neg_mul]; congr 1; omega
 have h7 : q - 1 ≤ W / V := (Int.le_ediv_iff_mul_le hV0).2 hq1
 have h8 : W / V < q := (Int.ediv_lt_iff_lt_mul hV0).2 (by omega)
 have h9 : q - 1 = W / V := by omega
 refine ⟨h9, ?_⟩
 have e1 : W % V = mid2 + (over + un - (c + b)) * P := by
  have e2 : W % V = W - (q - 1) * V := by rw [h9, jiu]; omega
  rw [e2, Int.sub_mul, jiE]
  have e3 : (over + un - (c + b)) * P = over * P + (un - (c + b)) * P := by rw [← jiD]; congr 1; omega
  rw [e3]; omega
 have e4 : over + un - (c + b) = 0 := by
  rcases Int.lt_trichotomy (over + un - (c + b)) 0 with g | g | g
  ·have : (over + un - (c + b)) * P ≤ (-1) * P := jin (by omega) (by omega)
   omega
  ·exact g
  ·have : 1 * P ≤ (over + un - (c + b)) * P := jin (by omega) (by omega)
   omega
 rw [e4, Int.zero_mul, jiB] at e1
 exact e1.symm
theorem red_step {B : Nat} {mid ul vl : List Int} {c b u d r c' b' q : Int} {i : Nat} (hi : mid.length = i) (h : val B mid - (c + b) * (B : Int) ^ i = val B ul - q * val B vl) (hs : r - B * (c' + b') = u - q * d - (c + b)) :
  val B (mid ++ [r]) - (c' + b') * (B : Int) ^ (i + 1) = (val B ul + (B : Int) ^ i * u) - q * (val B vl + (B : Int) ^ i * d) := by
 rw [jaQ, hi, Int.pow_succ, jit]
 generalize (B : Int) ^ i = P at *
 have e1 : P * (r - B * (c' + b')) = P * r - (c' + b') * (P * B) := by rw [Int.mul_sub]; congr 1; ac_rfl
 have e2 : P * (u - q * d - (c + b)) = P * u - q * (P * d) - (c + b) * P := by rw [Int.mul_sub, Int.mul_sub]; congr 1; congr 1; ac_rfl; ac_rfl
 rw [hs, e2] at e1
 omega
theorem jf9 {u A mid : List Int} {k : Nat} {r : Int} (hk : A.length + mid.length = k) (h : k < u.length) : (A ++ mid ++ u.drop k).set k r = A ++ (mid ++ [r]) ++ u.drop (k + 1) := by
 have e : (A ++ mid).length = k := by rw [jiP]; exact hk
 rw [List.set_append_right _ _ (by omega), e, Nat.sub_self, ji2 h, List.set_cons_zero]
 simp
theorem mid_get {u A mid : List Int} {k : Nat} (hk : A.length + mid.length = k) : (A ++ mid ++ u.drop k).getD k 0 = u.getD k 0 := by
 have e : (A ++ mid).length = k := by rw [jiP]; exact hk
 rw [jiJ, List.getElem?_append_right (by omega), e, Nat.sub_self, List.getElem?_drop, jiJ]
 rfl
theorem mid_drop {u A mid : List Int} {k : Nat} (hk : A.length + mid.length = k) : (A ++ mid ++ u.drop k).drop k = u.drop k := by
 have e : (A ++ mid).length = k := by rw [jiP]; exact hk
 rw [List.drop_append, e, Nat.sub_self, ji0 (by omega)]
 simp
theorem getD_drop {u : List Int} {j i : Nat} : (u.drop j).getD i 0 = u.getD (j + i) 0 := by
 rw [jiJ, List.getElem?_drop, jiJ]
theorem kn_of {B p j : Nat} {u v : List Int} {W V : Int} (hB : 2 ≤ B) (hu : Dg B u) (hv : Dg B v) (hlv : v.length = p + 2) (hV : val B v = V) (hW : val B (u.drop j) = W) (hz : val B (u.drop (j + (p + 2) + 1)) = 0) (htop : 1 ≤ v.getD (p + 1) 0) (hlt : W < B * V) :
  Kn B (v.getD (p + 1) 0) (v.getD p 0) (val B (v.take p)) (u.getD (j + p) 0) (val B ((u.drop j).take p)) (u.getD (j + (p + 2)) 0 * B + u.getD (j + (p + 1)) 0) W V ((B : Int) ^ p) := by
 have e1 : V = (v.getD (p + 1) 0 * B + v.getD p 0) * (B : Int) ^ p + val B (v.take p) := by
  rw [← hV]
  conv => lhs; rw [← jja (l := v), hlv, jai, jai]
  rw [Int.pow_succ]
  generalize (B : Int) ^ p = P
  rw [jiD]
  have e : v.getD (p + 1) 0 * B * P = P * B * v.getD (p + 1) 0 := by ac_rfl
  have e' : v.getD p 0 * P = P * v.getD p 0 := jiu _ _
  omega
 have e2 : W = ((u.getD (j + (p + 2)) 0 * B + u.getD (j + (p + 1)) 0) * B + u.getD (j + p) 0) * (B : Int) ^ p + val B ((u.drop j).take p) := by
  have h1 : val B (u.drop j) = val B ((u.drop j).take p) + (B : Int) ^ p * val B (u.drop (j + p)) := by
   rcases Nat.le_total p (u.drop j).length with h | h
   ·rw [jbH B (u.drop j) p h, List.drop_drop]
   ·have hz2 : u.drop (j + p) = [] := List.drop_eq_nil_of_le (by rw [ji7] at h; omega)
    rw [jiZ h, hz2]; simp [val]
  rw [← hW, h1, ja1 B u (j + p), ja1 B u (j + p + 1), ja1 B u (j + p + 1 + 1)]
  rw [show j + p + 1 + 1 + 1 = j + (p + 2) + 1 by omega, hz, show j + p + 1 + 1 = j + (p + 2) by omega, show j + p + 1 = j + (p + 1) by omega]
  rw [Int.mul_zero, jiB]
  generalize (B : Int) ^ p = P
  rw [Int.add_comm, jiu P]
  congr 2
  rw [jiu (B : Int), jiu (B : Int), Int.add_comm, Int.add_comm (u.getD (j + (p + 1)) 0)]
 have b1 := jam (by omega) hv (p + 1)
 have b2 := jam (by omega) hv p
 have b3 := jam (by omega) hu (j + p)
 have b4 := jam (by omega) hu (j + (p + 1))
 have b5 := jam (by omega) hu (j + (p + 2))
 have l1 := jcd hB hv p
 have l2 := jcd hB (jbq hu j) p
 have l3 := jan (jbi hv p)
 have l4 := jan (jbi (jbq hu j) p)
 have l5 := jeh hB p
 have l6 : 0 ≤ u.getD (j + (p + 2)) 0 * (B : Int) := jie b5.1 (by omega)
 exact { hB := by omega, hP := by omega, ht := htop, hv := e1, hu := e2, v20 := b2.1, v2B := b2.2, u20 := b3.1, u2B := b3.2, vr0 := l3, vrP := l1, ur0 := l4, urP := l2, hh := by omega, htB := b1.2, lt := hlt }
theorem div_inv {B p j : Nat} {u q mid : List Int} {Qd W VV M : Int} (hB : 2 ≤ B) (hj : j < q.length) (hju : j + (p + 2) < u.length) (hmid : mid.length = p + 2) (hdu : Dg B u) (hdm : Dg B mid) (h6 : val B (u.drop (j + (p + 2) + 1)) = 0)
  (hW : val B (u.drop j) = W) (hV0 : 0 < VV) (hm : val B mid = W % VV) (hQ : Qd = W / VV) (h8 : M = val B (q.drop (j + 1)) * (B : Int) ^ (j + 1) * VV + val B u) :
  (u.take j ++ (mid ++ [0]) ++ u.drop (j + (p + 2) + 1)).length = u.length ∧ Dg B (u.take j ++ (mid ++ [0]) ++ u.drop (j + (p + 2) + 1)) ∧ val B ((u.take j ++ (mid ++ [0]) ++ u.drop (j + (p + 2) + 1)).drop (j + (p + 2))) = 0 ∧
  val B ((u.take j ++ (mid ++ [0]) ++ u.drop (j + (p + 2) + 1)).drop j) < VV ∧ M = val B ((q.set j Qd).drop j) * (B : Int) ^ j * VV + val B (u.take j ++ (mid ++ [0]) ++ u.drop (j + (p + 2) + 1)) := by
 have hA : (u.take j).length = j := by rw [jiQ]; omega
 have hl : (u.take j ++ (mid ++ [0]) ++ u.drop (j + (p + 2) + 1)).length = u.length := by
  simp only [jiP, jiQ, ji7, List.length_singleton, hmid]; omega
 have hd : Dg B (u.take j ++ (mid ++ [0]) ++ u.drop (j + (p + 2) + 1)) := jah (jah (jbi hdu _) (jah hdm (jau (by omega)))) (jbq hdu _)
 have hz : ∀ P : Int, val B (mid ++ [0] ++ u.drop (j + (p + 2) + 1)) = val B mid := fun _ => by
  rw [jbC, h6, Int.mul_zero, jiB, jaQ, Int.mul_zero, jiB]
 have e1 : (u.take j ++ (mid ++ [0]) ++ u.drop (j + (p + 2) + 1)).drop j = mid ++ [0] ++ u.drop (j + (p + 2) + 1) := by
  rw [jiR, List.drop_append, hA, Nat.sub_self, ji0 (by omega)]; rfl
 have e2 : (u.take j ++ (mid ++ [0]) ++ u.drop (j + (p + 2) + 1)).drop (j + (p + 2)) = [0] ++ u.drop (j + (p + 2) + 1) := by
  rw [← List.drop_drop, e1, jiR, List.drop_append, hmid, Nat.sub_self, ji0 (by omega)]; rfl
 have hr := jiA W hV0
 refine ⟨hl, hd, ?_, ?_, ?_⟩
 ·rw [e2, jbC, h6]; simp [val]
 ·rw [e1, hz 0, hm]; exact hr
 ·have v1 := jbH B u j (by omega)
  rw [hW] at v1
  have v2 : val B (u.take j ++ (mid ++ [0]) ++ u.drop (j + (p + 2) + 1)) = val B (u.take j) + (B : Int) ^ j * (W % VV) := by
   rw [jiR, jbC, hA, hz 0, hm]
  have v3 := jbM (B := B) (l := q.set j Qd) (k := j) (by rw [ji6]; exact hj)
  rw [jeS hj, je1 (l := q) (i := j) (k := j + 1) (by omega)] at v3
  rw [h8, v2, v3, v1, hQ, Int.pow_succ]
  have v4 := jid W VV
  generalize W / VV = Q at *
  generalize W % VV = R at *
  generalize (B : Int) ^ j = P
  generalize val B (q.drop (j + 1)) = q1
  rw [← v4, jit, jiD, jiD]
  have w1 : q1 * (P * (B : Int)) * VV = (B : Int) * q1 * P * VV := by ac_rfl
  have w2 : P * (VV * Q) = Q * P * VV := by ac_rfl
  rw [w1, w2]
  omega
theorem jhB (a b : Nat) (h : a < b) (ha : (mg 1000000000 a).length ≤ 100000000) (hb : (mg 1000000000 b).length ≤ 100000000) : Called Tryz.prog 166 [.ints .u32 (mg 1000000000 a), .ints .u32 (mg 1000000000 b)] (.tup [.ints .u32 (mg 1000000000 (a / b)), .ints .u32 (mg 1000000000 (a % b))]) := by
 have hc := jca a b ha hb
 rw [jiF (by omega)] at hc
 rw [Nat.div_eq_of_lt h, jim h, jck]
 refine V.en tbOk Tryz.func166 ?_
 (conv => whnf)
 refine V.st ?_
 repeat ((try ((with_reducible refine .ext ?_); (conv => whnf))); (with_reducible refine jaa (r := ?_) ?_ ?_); rotate_left; (focus (first | exact (hc))); (conv => whnf); refine V.st ?_)
 exact Fin.tup ⟨Fin.nil _, Fin.of rfl, trivial⟩
theorem divide_one (a b : Nat) (h : b ≤ a) (hb : 0 < b) (hb1 : b < 1000000000) (ha : (mg 1000000000 a).length ≤ 100000000) : Called Tryz.prog 166 [.ints .u32 (mg 1000000000 a), .ints .u32 (mg 1000000000 b)] (.tup [.ints .u32 (mg 1000000000 (a / b)), .ints .u32 (mg 1000000000 (a % b))]) := by
 have hc := jca a b ha (by have := jaf (B := 1000000000) (by omega) h; omega)
 have hmb : mg 1000000000 b = [(b : Int)] := by
  rw [jb7 (by omega) hb, jim hb1, Nat.div_eq_of_lt hb1]; rfl
 have hs0 : 0 ≤ ((a : Int) - b).sign := Int.sign_nonneg_iff.2 (by omega)
 generalize ((a : Int) - b).sign = sg at *
 have hsh := short_c a b ha hb (by omega)
 have hlt : a % b < b := jik _ hb
 have hfs := jc6 (a % b) (by omega)
 rw [hmb] at hc ⊢
 refine V.en tbOk Tryz.func166 ?_
 (conv => whnf)
 refine V.st ?_
 repeat ((try ((with_reducible refine .ext ?_); (conv => whnf))); (with_reducible refine jaa (r := ?_) ?_ ?_); rotate_left; (focus (first | exact (hc))); (conv => whnf); refine V.st ?_)
 refine Cnd.no (by rw [decide_eq_false_iff_not]; omega) ?_
 (conv => whnf)
 refine V.st ?_
 refine Cnd.yes (by simp) ?_
 (conv => whnf)
 refine V.st ?_
 repeat ((try ((with_reducible refine .ext ?_); (conv => whnf))); (with_reducible refine jaa (r := ?_) ?_ ?_); rotate_left; (focus (first | exact (hsh) | exact (hfs))); (conv => whnf); refine V.st ?_)
 exact Fin.of rfl
theorem jhQ : type_of% @jih ∧ type_of% @jif := ⟨@jih, @jif⟩
theorem jhA (a b : Nat) (h : b ≤ a) (hb1 : 1000000000 ≤ b) (ha : (mg 1000000000 a).length ≤ 90000000) : Called Tryz.prog 166 [.ints .u32 (mg 1000000000 a), .ints .u32 (mg 1000000000 b)] (.tup [.ints .u32 (mg 1000000000 (a / b)), .ints .u32 (mg 1000000000 (a % b))]) := by
 have hlen := jaf (B := 1000000000) (by omega) h
 have hc := jca a b (by omega) (by omega)
 have hs0 : 0 ≤ ((a : Int) - b).sign := Int.sign_nonneg_iff.2 (by omega)
 generalize ((a : Int) - b).sign = sg at *
 obtain ⟨p, hp⟩ : ∃ p, (mg 1000000000 b).length = p + 2 := by
  have := jaf (B := 1000000000) (by omega) hb1
  have e : mg 1000000000 1000000000 = [0, 1] := by rfl
  rw [e] at this
  exact ⟨(mg 1000000000 b).length - 2, by simp at this; omega⟩
 -- the scale
 have hdb := mg_dg (B := 1000000000) (by omega) b
 have hvb := jaC (B := 1000000000) (by omega) b
 have hlb := jdP (B := 1000000000) (n := b) (by omega)
 have hlt1 := jaH (B := 1000000000) (n := a) (by omega)
 have ht0 := jam (by omega) hdb (p + 1)
 have ht1 : (mg 1000000000 b).getD (p + 1) 0 ≠ 0 := by
  refine hlb _ ?_
  rw [List.getLast?_eq_getElem?, hp, jiJ, show p + 2 - 1 = p + 1 by omega, jiM (by omega)]; rfl
 generalize hts : (mg 1000000000 b).getD (p + 1) 0 = t at *
 obtain ⟨t, rfl⟩ : ∃ t' : Nat, t = t' := ⟨t.toNat, by omega⟩
 obtain ⟨s, hs⟩ : ∃ s : Nat, 1000000000 / ((t : Int) + 1) = s := ⟨(1000000000 / ((t : Int) + 1)).toNat, by have := Int.ediv_nonneg (a := 1000000000) (b := (t : Int) + 1) (by omega) (by omega); omega⟩
 have hs1 : 1 ≤ s ∧ s < 1000000000 ∧ s * (t + 1) ≤ 1000000000 := by
  have e1 : s = 1000000000 / (t + 1) := by
   have : ((1000000000 / (t + 1) : Nat) : Int) = 1000000000 / ((t : Int) + 1) := by rw [Int.natCast_ediv]; rfl
   omega
  refine ⟨?_, ?_, ?_⟩
  ·rw [e1]; exact (Nat.le_div_iff_mul_le (by omega)).2 (by omega)
  ·rw [e1]; exact Nat.div_lt_of_lt_mul (by omega)
  ·rw [e1]; exact Nat.div_mul_le_self _ _
 have hms : mg 1000000000 s = [(s : Int)] := by
  rw [jb7 (by omega) (by omega), jim (by omega), Nat.div_eq_of_lt (by omega)]; rfl
 have htm1 := jcv b s (by omega) (by rw [hms]; simp)
 have htm2 := jcv a s (by omega) (by rw [hms]; simp)
 rw [hms] at htm1 htm2
 -- the divisor, scaled
 have hbt : b < (t + 1) * 1000000000 ^ (p + 1) ∧ t * 1000000000 ^ (p + 1) ≤ b := by
  have h1 := jed (B := 1000000000) (by omega) hdb (p + 1)
  rw [ja1, hts, List.drop_eq_nil_of_le (by omega), hvb] at h1
  simp only [val, Int.mul_zero, jiB] at h1
  have e : ((1000000000 : Nat) : Int) ^ (p + 1) = ((1000000000 ^ (p + 1) : Nat) : Int) := by rw [jiC]
  rw [e] at h1
  have e1 : ((t : Int) + 1) = ((t + 1 : Nat) : Int) := by omega
  rw [e1, ← jis, ← jis] at h1
  omega
 have hPp : 0 < 1000000000 ^ (p + 1) := Nat.pow_pos (by omega)
 have hVlt : b * s < 1000000000 ^ (p + 2) := by
  have h1 : b * s < (t + 1) * 1000000000 ^ (p + 1) * s := Nat.mul_lt_mul_of_pos_right hbt.1 (by omega)
  have h2 : s * (t + 1) * 1000000000 ^ (p + 1) ≤ 1000000000 * 1000000000 ^ (p + 1) := Nat.mul_le_mul_right _ hs1.2.2
  have e1 : (t + 1) * 1000000000 ^ (p + 1) * s = s * (t + 1) * 1000000000 ^ (p + 1) := by ac_rfl
  rw [Nat.pow_succ 1000000000 (p + 1), jil (1000000000 ^ (p + 1))]
  omega
 have hVge : s * 1000000000 ^ (p + 1) ≤ b * s := by
  have h1 : 1 * 1000000000 ^ (p + 1) ≤ t * 1000000000 ^ (p + 1) := Nat.mul_le_mul_right _ (by omega)
  rw [jil b]
  exact Nat.mul_le_mul_left _ (by omega)
 have hVl : (mg 1000000000 (b * s)).length = p + 2 := by
  have h1 := jav (B := 1000000000) (n := b * s) (k := p + 2) (by omega) hVlt
  rcases jip (mg 1000000000 (b * s)).length (p + 2) with h2 | h2
  ·have h3 := jaH (B := 1000000000) (n := b * s) (by omega)
   have h4 : 1000000000 ^ (mg 1000000000 (b * s)).length ≤ 1000000000 ^ (p + 1) := jiy (by omega) (by omega)
   have h5 : 1 * 1000000000 ^ (p + 1) ≤ s * 1000000000 ^ (p + 1) := Nat.mul_le_mul_right _ hs1.1
   omega
  ·omega
 have hdV := mg_dg (B := 1000000000) (by omega) (b * s)
 have hvV := jaC (B := 1000000000) (by omega) (b * s)
 have hlV := jdP (B := 1000000000) (n := b * s) (by omega)
 have htV : (mg 1000000000 (b * s)).getD (p + 1) 0 ≠ 0 := by
  refine hlV _ ?_
  rw [List.getLast?_eq_getElem?, hVl, jiJ, show p + 2 - 1 = p + 1 by omega, jiM (by omega)]; rfl
 have hM : (mg 1000000000 (a * s)).length ≤ (mg 1000000000 a).length + 1 := by
  have := jbE (B := 1000000000) (by omega) a s
  rw [hms] at this
  simpa using this
 have hdM := mg_dg (B := 1000000000) (by omega) (a * s)
 have hvM := jaC (B := 1000000000) (by omega) (a * s)
 have hMlt : a * s < s * 1000000000 ^ (mg 1000000000 a).length := by
  rw [jil]; exact Nat.mul_lt_mul_of_pos_left hlt1 (by omega)
 generalize hmb : mg 1000000000 b = bs at *
 generalize hma : mg 1000000000 a = xs at *
 generalize hmV : mg 1000000000 (b * s) = vs at *
 generalize hmM : mg 1000000000 (a * s) = ms at *
 have e1 : ((bs.length : Int) - 1).toNat = p + 1 := by omega
 obtain ⟨N, hN⟩ : ∃ N, N = xs.length + 1 := ⟨_, rfl⟩
 obtain ⟨L, hL⟩ : ∃ L, L = xs.length - vs.length := ⟨_, rfl⟩
 obtain ⟨L1, hL1⟩ : ∃ L1, L1 = L + 1 := ⟨_, rfl⟩
 have e2 : (xs.length : Int) + 1 = (N : Int) := by omega
 have e3 : (xs.length : Int) - ((p + 2 : Nat) : Int) = (L : Int) := by omega
 have e4 : (L : Int) + 1 = (L1 : Int) := by omega
 refine V.en tbOk Tryz.func166 ?_
 (conv => whnf)
 refine V.st ?_
 repeat ((try ((with_reducible refine .ext ?_); (conv => whnf))); (with_reducible refine jaa (r := ?_) ?_ ?_); rotate_left; (focus (first | exact (hc))); (conv => whnf); refine V.st ?_)
 refine Cnd.no (by rw [decide_eq_false_iff_not]; omega) ?_
 (conv => whnf)
 refine V.st ?_
 refine Cnd.no (by rw [decide_eq_false_iff_not]; omega) ?_
 refine V.r2 (V.a8 @e1 e2 e3 e4 hts hs hVl @jih) htm1 htm2 ?_
 have hu0 : setAt (List.replicate N 0) 0 (List.take N ms) = ms ++ List.replicate (N - ms.length) 0 := by
  unfold setAt
  rw [List.take_zero, List.nil_append, jiZ (l := ms) (by omega), jif, List.drop_replicate]
 have hu0v : val 1000000000 (ms ++ List.replicate (N - ms.length) 0) = (a * s : Nat) := by
  rw [jbC, jew, Int.mul_zero, jiB, hvM]
 simp only [hu0]
 refine jac ((L1, ms ++ List.replicate (N - ms.length) 0, List.replicate L1 0) : Nat × List Int × List Int) (fun x => x.1 ≤ L1 ∧ x.2.1.length = N ∧ Dg 1000000000 x.2.1 ∧ x.2.2.length = L1 ∧ Dg 1000000000 x.2.2 ∧ val 1000000000 (x.2.1.drop (x.1 + (p + 2))) = 0 ∧ val 1000000000 (x.2.1.drop x.1) < (b * s : Nat) ∧ ((a * s : Nat) : Int) = val 1000000000 (x.2.2.drop x.1) * ((1000000000 : Nat) : Int) ^ x.1 * (b * s : Nat) + val 1000000000 x.2.1) (fun x => x.1)
  (fun x => [(12, .int .i64 ((x.1 : Int) - 1)), (4, .osl 62 0 L1), (10, .osl 48 0 N)]) (fun x => [(62, .arr .u32 x.2.2), (48, .arr .u32 x.2.1)]) ?_ ?_ ?_
 ·rw [show ((L1 : Int) - 1) = (L : Int) by omega]
  exact V.wk
 ·refine ⟨jii _, by simp; omega, jah hdM (jbT (by omega) _), by simp, jbT (by omega) _, ?_, ?_, ?_⟩
  ·dsimp only
   rw [ji0 (by simp; omega)]; rfl
  ·dsimp only
   have h1 := jed (B := 1000000000) (by omega) (jah hdM (jbT (by omega) (N - ms.length))) L1
   rw [hu0v] at h1
   generalize val 1000000000 ((ms ++ List.replicate (N - ms.length) 0).drop L1) = z at *
   have h2 : ((1000000000 : Nat) : Int) ^ L1 = ((1000000000 ^ L1 : Nat) : Int) := by rw [jiC]
   have h3 : 0 < 1000000000 ^ L1 := Nat.pow_pos (by omega)
   have h4 : a * s < (s * 1000000000 ^ (p + 1)) * 1000000000 ^ L1 := by
    rw [Nat.mul_assoc, ← Nat.pow_add, show p + 1 + L1 = xs.length by omega]; exact hMlt
   have h5 : (s * 1000000000 ^ (p + 1)) * 1000000000 ^ L1 ≤ (b * s) * 1000000000 ^ L1 := Nat.mul_le_mul_right _ hVge
   rw [h2] at h1
   refine Int.lt_of_mul_lt_mul_right (a := ((1000000000 ^ L1 : Nat) : Int)) ?_ (by omega)
   rw [← jis]
   omega
  ·dsimp only
   rw [ji0 (by simp), hu0v]; simp [val]
 rintro ⟨k, u, q⟩ ⟨h1, h2, h3, h4, h5, h6, h7, h8⟩
 dsimp only at h1 h2 h3 h4 h5 h6 h7 h8 ⊢
 (conv => whnf)
 refine V.st ?_
 refine V.br (fun hq => ?_) (fun hq => ?_)
 ·rw [decide_eq_true_eq] at hq
  obtain ⟨j, rfl⟩ : ∃ j, k = j + 1 := ⟨k - 1, by omega⟩
  have f1 : (((j + 1 : Nat) : Int) - 1) = (j : Int) := by omega
  have f2 : (j : Int) + ((p + 2 : Nat) : Int) = ((j + (p + 2) : Nat) : Int) := by omega
  have f4 : ((j + (p + 2) : Nat) : Int) + 1 = ((j + (p + 3) : Nat) : Int) := by omega
  have f5 : j + (p + 3) - j = p + 3 := by omega
  have f6 : ((p + 2 : Nat) : Int) - 1 = ((p + 1 : Nat) : Int) := by omega
  have f7 : ((p + 2 : Nat) : Int) - 2 = ((p : Nat) : Int) := by omega
  -- what is looked at
  obtain ⟨W, hW⟩ : ∃ W, val 1000000000 (u.drop j) = W := ⟨_, rfl⟩
  obtain ⟨VV, hVV⟩ : ∃ VV : Int, ((b * s : Nat) : Int) = VV := ⟨_, rfl⟩
  rw [hVV] at h7 h8 hvV
  have bv1 := jam (by omega) hdV (p + 1)
  have bu := jam (by omega) h3 j
  have hWlt : W < 1000000000 * VV := by
   rw [ja1] at hW; omega
  have hkn := kn_of (B := 1000000000) (p := p) (j := j) (u := u) (v := vs) (W := W) (V := VV) (by omega) h3 hdV hVl hvV hW (by rw [show j + (p + 2) + 1 = j + 1 + (p + 2) by omega]; exact h6) (by omega) hWlt
  have hVpos := hkn.vpos
  have hW0 : 0 ≤ W := by rw [← hW]; exact jan (jbq h3 j)
  have b1 := jam (by omega) h3 (j + (p + 2))
  have b2 := jam (by omega) h3 (j + (p + 1))
  have b3 := jam (by omega) h3 (j + p)
  have b4 := jam (by omega) hdV p
  generalize hg1 : u.getD (j + (p + 2)) 0 = un at *
  generalize hg2 : u.getD (j + (p + 1)) 0 = u1 at *
  generalize hg3 : u.getD (j + p) 0 = u0 at *
  generalize hg4 : vs.getD (p + 1) 0 = vt at *
  generalize hg5 : vs.getD p 0 = v2 at *
  refine V.r0 (V.a7 jhQ f1 f2 f4 f5 f6 f7) ?_
  refine .inl ?_
  (conv => whnf)
  refine ⟨0, _, _, ⟨Tryz.func197, rfl, rfl, jia rfl⟩, ?_⟩
  (conv => whnf)
  (conv => whnf)
  (try simp only [jhQ, f1, f2, f4, f5, f6, f7, hVl, hg4])
  repeat ((first | refine V.s1 ?_); (try simp only [jhQ, f1, f2, f4, f5, f6, f7, hVl, hg4]))
  refine ⟨(V.tk [0,1,2,3,4,5,6,7,8,9,10,11,12,13] .done), [], V.pok, .go (jad ?_)⟩
  (conv => whnf)
  (try simp only [jhQ, f1, f2, f4, f5, f6, f7, hVl, hg1, hg2])
  repeat ((first | refine V.s1 ?_); (try simp only [jhQ, f1, f2, f4, f5, f6, f7, hVl, hg1, hg2]))
  refine ⟨(V.tk [0,1,2,3,4,5,6,7] .done), [], V.pok, .go (jad ?_)⟩
  (conv => whnf)
  (try simp only [jhQ, f1, f2, f4, f5, f6, f7, hVl, hg1, hg2])
  repeat ((first | refine V.s1 ?_); (try simp only [jhQ, f1, f2, f4, f5, f6, f7, hVl, hg1, hg2]))
  have hkn' : Kn 1000000000 vt v2 (val 1000000000 (vs.take p)) u0 (val 1000000000 ((u.drop j).take p)) (un * 1000000000 + u1) W VV (((1000000000 : Nat) : Int) ^ p) := hkn
  have hQ0 : 0 ≤ W / VV := Int.ediv_nonneg hW0 (by omega)
  have hQm : W / VV * VV ≤ W := Int.ediv_mul_le _ (by omega)
  have hQi := hkn'.init hQ0 hQm
  have hhd : 0 ≤ un * 1000000000 + u1 ∧ un * 1000000000 + u1 < 1000000000000000000 := by omega
  generalize hHD : un * 1000000000 + u1 = HD at *
  refine jhj (β := Int × Int) 0 (fun y => 0 ≤ y.1 ∧ y.1 < 1000000000 ∧ (y.1 - 1) * VV ≤ W ∧ W / VV ≤ y.1) (fun y => [(8, .int .u64 y.1), (9, .int .u64 y.2)]) (fun _ => []) ?_ ?_
  ·refine jac ((HD / vt, HD % vt) : Int × Int) (fun y => HD = y.1 * vt + y.2 ∧ (0 ≤ y.2 ∧ y.2 < 1000000000) ∧ W / VV ≤ y.1) (fun y => y.1.toNat) (fun y => [(8, .int .u64 y.1), (9, .int .u64 y.2)]) (fun _ => []) ?_ ?_ ?_
   ·exact V.wk
   ·have hvtp : (0 : Int) < vt := by omega
    refine ⟨by dsimp only; have := jid HD vt; rw [jiu]; omega, ⟨jic _ (by omega), ?_⟩, hQi⟩
    have := jiA HD hvtp
    dsimp only; omega
   rintro ⟨qq, r⟩ ⟨i1, i2, i3⟩
   dsimp only at i1 i2 i3 ⊢
   have hqv : qq < 1000000000 → 0 ≤ qq * v2 ∧ qq * v2 ≤ 999999999 * 999999999 := fun h => ⟨jie (by omega) (by omega), Int.mul_le_mul (by omega) (by omega) (by omega) (by omega)⟩
   refine V.r0 (V.a8 jhQ f1 f2 f4 f5 f6 f7 hVl) ?_
   refine ⟨(V.tk [0,1,2,3,4,5,6,7,8,9,10,11,12,13,14,15,16,17,18,19,20,21] .done), [], V.pok, .go (jad ?_)⟩
   (conv => whnf)
   (try simp only [jhQ, f1, f2, f4, f5, f6, f7, hVl, hg5, hg3])
   repeat ((first | refine V.s1 ?_); (try simp only [jhQ, f1, f2, f4, f5, f6, f7, hVl, hg5, hg3]))
   refine Or.inl (And.intro (fun h _ _ => ?_) ?_)
   ·have h9 := hqv (by simpa using h)
    exact ⟨by simp only [V.lo]; omega, by simp only [V.hi]; omega⟩
   (conv => whnf)
   (try simp only [jhQ, f1, f2, f4, f5, f6, f7, hVl, hg5, hg3])
   repeat ((first | refine V.s1 ?_); (try simp only [jhQ, f1, f2, f4, f5, f6, f7, hVl, hg5, hg3]))
   refine V.br (fun hq5 => ?_) (fun hq5 => ?_)
   ·rw [Bool.or_eq_true, decide_eq_true_eq, decide_eq_true_eq] at hq5
    have hst := hkn'.step hQ0 hQm i3 i1 (by omega)
    have hqpos : 1 ≤ qq := by omega
    have hrec : HD = (qq - 1) * vt + (r + vt) := by rw [Int.sub_mul, jiE]; omega
    refine V.r0 (V.a8 jhQ f1 f2 f4 f5 f6 f7 hVl) ?_
    refine V.br (fun hq6 => ?_) (fun hq6 => ?_)
    ·rw [decide_eq_true_eq] at hq6
     have ho := hkn'.out2 (q := qq - 1) (r := r + vt) (by omega) hrec hq6
     refine V.r0 (V.a8 jhQ f1 f2 f4 f5 f6 f7 hVl) ?_
     exact ⟨(qq - 1, r + vt), ⟨by dsimp only; omega, ho.1, ho.2, hst⟩, V.wk⟩
    ·rw [decide_eq_false_iff_not] at hq6
     refine V.r0 (V.a8 jhQ f1 f2 f4 f5 f6 f7 hVl) ?_
     exact ⟨(qq - 1, r + vt), ⟨hrec, by dsimp only; omega, hst⟩, by dsimp only; omega, V.wk⟩
   ·rw [jir, decide_eq_false_iff_not, decide_eq_false_iff_not] at hq5
    have ho := hkn'.out1 (q := qq) (r := r) (by omega) i1 (by omega) (by omega)
    refine V.r0 (V.a8 jhQ f1 f2 f4 f5 f6 f7 hVl) ?_
    exact ⟨(qq, r), ⟨by dsimp only; omega, by dsimp only; omega, ho, i3⟩, V.wk⟩
  ·rintro ⟨qq, r⟩ ⟨i1, i2, i3, i4⟩
   dsimp only at i1 i2 i3 i4 ⊢
   refine V.r0 (V.a8 jhQ f1 f2 f4 f5 f6 f7 hVl) ?_
   have hAl : (u.take j).length = j := by rw [jiQ]; omega
   have hnl : u.take j ++ [] ++ u.drop (j + 0) = u := by rw [List.append_nil, Nat.add_zero, List.take_append_drop]
   refine jac ((0, [], 0, 0) : Nat × List Int × Int × Int) (fun y => y.1 ≤ p + 2 ∧ y.2.1.length = y.1 ∧ Dg 1000000000 y.2.1 ∧ (0 ≤ y.2.2.1 ∧ y.2.2.1 < 1000000000) ∧ (0 ≤ y.2.2.2 ∧ y.2.2.2 ≤ 1) ∧ val 1000000000 y.2.1 - (y.2.2.1 + y.2.2.2) * ((1000000000 : Nat) : Int) ^ y.1 = val 1000000000 ((u.drop j).take y.1) - qq * val 1000000000 (vs.take y.1)) (fun y => p + 2 - y.1)
    (fun y => [(77, .int .i64 y.1), (10, .int .u64 y.2.2.1), (11, .int .i64 y.2.2.2)]) (fun y => [(48, .arr .u32 (u.take j ++ y.2.1 ++ u.drop (j + y.1)))]) ?_ ?_ ?_
   ·rw [hnl]
    exact V.wk
   ·exact ⟨jib _, rfl, fun x hx => by simp at hx, by simp, by simp, by simp [val]⟩
   rintro ⟨i, mid, c, bw⟩ ⟨g1, g2, g3, g4, g5, g6⟩
   dsimp only at g1 g2 g3 g4 g5 g6 ⊢
   have hvu := jai 1000000000 (u.drop j) i
   have hvv := jai 1000000000 vs i
   rw [getD_drop] at hvu
   have bd := jam (by omega) hdV i
   have bui := jam (by omega) h3 (j + i)
   have hcl : (u.take j ++ mid ++ u.drop (j + i)).length = N := by
    rw [jiP, jiP, hAl, g2, ji7]; omega
   have hcg := mid_get (u := u) (A := u.take j) (mid := mid) (k := j + i) (by omega)
   refine V.r0 (V.a8 jhQ f1 f2 f4 f5 f6 f7 hVl) ?_
   refine V.br (fun hw => ?_) (fun hw => ?_)
   ·rw [decide_eq_true_eq] at hw
    have hms2 := fun r => jf9 (u := u) (A := u.take j) (mid := mid) (k := j + i) (r := r) (by omega) (by omega)
    generalize hd0 : vs.getD i 0 = d at *
    generalize hui : u.getD (j + i) 0 = ui at *
    have hqd : 0 ≤ qq * d ∧ qq * d ≤ 999999999 * 999999999 := ⟨jie (by omega) (by omega), Int.mul_le_mul (by omega) (by omega) (by omega) (by omega)⟩
    have hki : ((i : Int) + 1) = ((i + 1 : Nat) : Int) := by omega
    have hai : j + i + 1 = j + (i + 1) := by omega
    generalize hqd0 : qq * d = qd at *
    (conv => whnf)
    (try simp only [jhQ, f1, f2, f4, f5, f6, f7, hVl, hd0, hcg, hki, hqd0])
    repeat ((first | refine V.s1 ?_); (try simp only [jhQ, f1, f2, f4, f5, f6, f7, hVl, hd0, hcg, hki, hqd0]))
    refine V.br (fun hneg => ?_) (fun hneg => ?_)
    ·rw [decide_eq_true_eq] at hneg
     have hst := red_step (B := 1000000000) (q := qq) (d := d) (u := ui) (r := ui - bw - (c + qd) % 1000000000 + 1000000000) (c' := (c + qd) / 1000000000) (b' := 1) g2 g6 (by rw [hqd0]; have := jid (c + qd) 1000000000; omega)
     rw [← hvu, ← hvv] at hst
     (conv => whnf)
     (try simp only [jhQ, f1, f2, f4, f5, f6, f7, hVl, hd0, hcg, hki, hms2, hai])
     repeat ((first | refine V.s1 ?_); (try simp only [jhQ, f1, f2, f4, f5, f6, f7, hVl, hd0, hcg, hki, hms2, hai]))
     exact ⟨(i + 1, mid ++ [ui - bw - (c + qd) % 1000000000 + 1000000000], (c + qd) / 1000000000, 1), ⟨by dsimp only; omega, by simp [g2], jah g3 (jau (by omega)), by dsimp only; omega, by simp, hst⟩, by dsimp only; omega, V.wk⟩
    ·rw [decide_eq_false_iff_not] at hneg
     have hst := red_step (B := 1000000000) (q := qq) (d := d) (u := ui) (r := ui - bw - (c + qd) % 1000000000) (c' := (c + qd) / 1000000000) (b' := 0) g2 g6 (by rw [hqd0]; have := jid (c + qd) 1000000000; omega)
     rw [← hvu, ← hvv] at hst
     (conv => whnf)
     (try simp only [jhQ, f1, f2, f4, f5, f6, f7, hVl, hd0, hcg, hki, hms2, hai])
     repeat ((first | refine V.s1 ?_); (try simp only [jhQ, f1, f2, f4, f5, f6, f7, hVl, hd0, hcg, hki, hms2, hai]))
     exact ⟨(i + 1, mid ++ [ui - bw - (c + qd) % 1000000000], (c + qd) / 1000000000, 0), ⟨by dsimp only; omega, by simp [g2], jah g3 (jau (by omega)), by dsimp only; omega, by simp, hst⟩, by dsimp only; omega, V.wk⟩
   ·rw [decide_eq_false_iff_not] at hw
    obtain rfl : i = p + 2 := by omega
    rw [hg1] at hcg
    (conv => whnf)
    (try simp only [jhQ, f1, f2, f4, f5, f6, f7, hVl, hcg])
    repeat ((first | refine V.s1 ?_); (try simp only [jhQ, f1, f2, f4, f5, f6, f7, hVl, hcg]))
    have h6' : val 1000000000 (u.drop (j + (p + 2) + 1)) = 0 := by rw [show j + (p + 2) + 1 = j + 1 + (p + 2) by omega]; exact h6
    have hWs : W = val 1000000000 ((u.drop j).take (p + 2)) + un * ((1000000000 : Nat) : Int) ^ (p + 2) := by
     have k1 := jbH 1000000000 (u.drop j) (p + 2) (by rw [ji7]; omega)
     rw [hW, List.drop_drop, ja1 1000000000 u (j + (p + 2)), h6', hg1, Int.mul_zero, jiB, jiu] at k1
     exact k1
    have hvsV : val 1000000000 (vs.take (p + 2)) = VV := by rw [← hVl, jja, hvV]
    rw [hvsV] at g6
    have hPn : (0 : Int) < ((1000000000 : Nat) : Int) ^ (p + 2) := jeh (by omega) _
    have hVP : VV ≤ ((1000000000 : Nat) : Int) ^ (p + 2) := by
     have k1 : ((b * s : Nat) : Int) < ((1000000000 ^ (p + 2) : Nat) : Int) := by exact_mod_cast hVlt
     rw [jiC] at k1
     omega
    have hm0 := jan g3
    have hm1 := jb2 g3
    rw [g2] at hm1
    have hsetz := jf9 (u := u) (A := u.take j) (mid := mid) (k := j + (p + 2)) (r := 0) (by omega) (by omega)
    refine V.br (fun hc2 => ?_) (fun hc2 => ?_)
    ·rw [decide_eq_true_eq] at hc2
     have hq1 : 1 ≤ qq := by
      rcases Int.lt_or_le qq 1 with k0 | k0
      ·obtain rfl : qq = 0 := by omega
       exfalso
       rw [Int.zero_mul, Int.sub_zero] at g6
       have k3 : 0 ≤ val 1000000000 ((u.drop j).take (p + 2)) := jan (jbi (jbq h3 j) _)
       rcases Int.lt_or_le 0 (c + bw) with k4 | k4
       ·have k5 : 1 * ((1000000000 : Nat) : Int) ^ (p + 2) ≤ (c + bw) * ((1000000000 : Nat) : Int) ^ (p + 2) := jin (by omega) (by omega)
        omega
       ·omega
      ·exact k0
     have hml : (u.take j ++ mid ++ u.drop (j + (p + 2))).length = N := by
      rw [jiP, jiP, hAl, g2, ji7]; omega
     obtain ⟨w, hw1⟩ : ∃ w, w = u.take j ++ mid ++ u.drop (j + (p + 2)) := ⟨_, rfl⟩
     have hwd : w.drop (j + (p + 2)) = u.drop (j + (p + 2)) := by rw [hw1]; exact mid_drop (by omega)
     have hwg : ∀ i, i < p + 2 → w.getD (j + i) 0 = mid.getD i 0 := fun i hi => by
      rw [hw1, jiR, jiJ, List.getElem?_append_right (by omega), hAl, Nat.add_sub_cancel_left, jiS (by omega), jiJ]
     have hnl2 : u.take j ++ [] ++ w.drop (j + 0) = w := by
      have : u.take j = w.take j := by rw [hw1, jiR, jiW (by omega), List.take_take, Nat.min_self]
      rw [this, List.append_nil, Nat.add_zero, List.take_append_drop]
     rw [← hw1] at hml
     simp only [← hw1]
     refine V.r0 (V.a8 jhQ f1 f2 f4 f5 f6 f7 hVl) ?_
     refine jac ((0, [], 0) : Nat × List Int × Int) (fun y => y.1 ≤ p + 2 ∧ y.2.1.length = y.1 ∧ Dg 1000000000 y.2.1 ∧ (0 ≤ y.2.2 ∧ y.2.2 ≤ 1) ∧ val 1000000000 y.2.1 + y.2.2 * ((1000000000 : Nat) : Int) ^ y.1 = val 1000000000 (mid.take y.1) + val 1000000000 (vs.take y.1)) (fun y => p + 2 - y.1)
      (fun y => [(125, .int .i64 y.1), (15, .int .u32 y.2.2)]) (fun y => [(48, .arr .u32 (u.take j ++ y.2.1 ++ w.drop (j + y.1)))]) ?_ ?_ ?_
     ·rw [hnl2]
      exact V.wk
     ·exact ⟨jib _, rfl, fun x hx => by simp at hx, by simp, by simp [val]⟩
     rintro ⟨i, m2, ov⟩ ⟨k1, k2, k3, k4, k5⟩
     dsimp only at k1 k2 k3 k4 k5 ⊢
     have hvm := jai 1000000000 mid i
     have hvv2 := jai 1000000000 vs i
     have bd := jam (by omega) hdV i
     have bmi := jam (by omega) g3 i
     have hcg2 := mid_get (u := w) (A := u.take j) (mid := m2) (k := j + i) (by omega)
     have hcl2 : (u.take j ++ m2 ++ w.drop (j + i)).length = N := by
      rw [jiP, jiP, hAl, k2, ji7]; omega
     refine V.r0 (V.a8 jhQ f1 f2 f4 f5 f6 f7 hVl) ?_
     refine V.br (fun hw2 => ?_) (fun hw2 => ?_)
     ·rw [decide_eq_true_eq] at hw2
      have hms3 := fun r => jf9 (u := w) (A := u.take j) (mid := m2) (k := j + i) (r := r) (by omega) (by omega)
      rw [hwg i (by omega)] at hcg2
      generalize hd0 : vs.getD i 0 = d at *
      generalize hmi : mid.getD i 0 = mi at *
      have hki : ((i : Int) + 1) = ((i + 1 : Nat) : Int) := by omega
      have hai : j + i + 1 = j + (i + 1) := by omega
      (conv => whnf)
      (try simp only [jhQ, f1, f2, f4, f5, f6, f7, hVl, hd0, hcg2, hki])
      repeat ((first | refine V.s1 ?_); (try simp only [jhQ, f1, f2, f4, f5, f6, f7, hVl, hd0, hcg2, hki]))
      refine V.br (fun hge => ?_) (fun hge => ?_)
      ·rw [decide_eq_true_eq] at hge
       have hst := jax (B := 1000000000) (x := mi) (y := d) (d := mi + d + ov - 1000000000) (c' := 1) k2 k5 (by omega)
       rw [← hvm, ← hvv2] at hst
       (conv => whnf)
       (try simp only [jhQ, f1, f2, f4, f5, f6, f7, hVl, hki, hms3, hai])
       repeat ((first | refine V.s1 ?_); (try simp only [jhQ, f1, f2, f4, f5, f6, f7, hVl, hki, hms3, hai]))
       exact ⟨(i + 1, m2 ++ [mi + d + ov - 1000000000], 1), ⟨by dsimp only; omega, by simp [k2], jah k3 (jau (by omega)), by simp, hst⟩, by dsimp only; omega, V.wk⟩
      ·rw [decide_eq_false_iff_not] at hge
       have hst := jax (B := 1000000000) (x := mi) (y := d) (d := mi + d + ov) (c' := 0) k2 k5 (by omega)
       rw [← hvm, ← hvv2] at hst
       (conv => whnf)
       (try simp only [jhQ, f1, f2, f4, f5, f6, f7, hVl, hki, hms3, hai])
       repeat ((first | refine V.s1 ?_); (try simp only [jhQ, f1, f2, f4, f5, f6, f7, hVl, hki, hms3, hai]))
       exact ⟨(i + 1, m2 ++ [mi + d + ov], 0), ⟨by dsimp only; omega, by simp [k2], jah k3 (jau (by omega)), by simp, hst⟩, by dsimp only; omega, V.wk⟩
     ·rw [decide_eq_false_iff_not] at hw2
      obtain rfl : i = p + 2 := by omega
      rw [hvsV, ← g2, jja, g2] at k5
      have hn0 := jan k3
      have hn1 := jb2 k3
      rw [k2] at hn1
      have hrb := red_b hPn hVpos hVP hWs g6 hm1 i3 (by omega) k5 hn0 hn1
      have hinv := div_inv (B := 1000000000) (p := p) (j := j) (u := u) (q := q) (mid := m2) (Qd := qq - 1) (M := ((a * s : Nat) : Int)) (by omega) (by omega) (by omega) k2 h3 k3 h6' hW hVpos hrb.2 hrb.1 h8
      have hsetz2 := jf9 (u := u) (A := u.take j) (mid := m2) (k := j + (p + 2)) (r := 0) (by omega) (by omega)
      (conv => whnf)
      (try simp only [jhQ, f1, f2, f4, f5, f6, f7, hVl, hwd, hsetz2])
      repeat ((first | refine V.s1 ?_); (try simp only [jhQ, f1, f2, f4, f5, f6, f7, hVl, hwd, hsetz2]))
      exact ⟨(j, u.take j ++ (m2 ++ [0]) ++ u.drop (j + (p + 2) + 1), q.set j (qq - 1)), ⟨by dsimp only; omega, by dsimp only; rw [hinv.1]; exact h2, hinv.2.1, by dsimp only; rw [ji6]; exact h4, jdA h5 (by omega), hinv.2.2.1, by dsimp only; rw [hVV]; exact hinv.2.2.2.1, by dsimp only; rw [hVV]; exact hinv.2.2.2.2⟩, by dsimp only; omega, V.wk⟩
    ·rw [decide_eq_false_iff_not] at hc2
     have hra := red_a hPn hVpos hVP hWs g6 hm0 i4 (by omega)
     have hinv := div_inv (B := 1000000000) (p := p) (j := j) (u := u) (q := q) (mid := mid) (Qd := qq) (M := ((a * s : Nat) : Int)) (by omega) (by omega) (by omega) g2 h3 g3 h6' hW hVpos hra.2 hra.1 h8
     (conv => whnf)
     (try simp only [jhQ, f1, f2, f4, f5, f6, f7, hVl, hsetz])
     repeat ((first | refine V.s1 ?_); (try simp only [jhQ, f1, f2, f4, f5, f6, f7, hVl, hsetz]))
     exact ⟨(j, u.take j ++ (mid ++ [0]) ++ u.drop (j + (p + 2) + 1), q.set j qq), ⟨by dsimp only; omega, by dsimp only; rw [hinv.1]; exact h2, hinv.2.1, by dsimp only; rw [ji6]; exact h4, jdA h5 ⟨i1, i2⟩, hinv.2.2.1, by dsimp only; rw [hVV]; exact hinv.2.2.2.1, by dsimp only; rw [hVV]; exact hinv.2.2.2.2⟩, by dsimp only; omega, V.wk⟩
 ·rw [decide_eq_false_iff_not] at hq
  obtain rfl : k = 0 := by omega
  rw [ji3, Int.pow_zero, Int.mul_one] at h8
  rw [ji3] at h7
  rw [jif] at h6
  have hvq := jan h5
  have hvu := jan h3
  obtain ⟨w, hw⟩ : ∃ w : Nat, val 1000000000 q = w := ⟨(val 1000000000 q).toNat, by omega⟩
  obtain ⟨z, hz⟩ : ∃ z : Nat, val 1000000000 u = z := ⟨(val 1000000000 u).toNat, by omega⟩
  rw [hw, hz, ← jis, ← Int.natCast_add] at h8
  rw [hz] at h7
  have h8' : a * s = w * (b * s) + z := by exact_mod_cast h8
  have h7' : z < b * s := by exact_mod_cast h7
  have hbs : 0 < b * s := by omega
  have hdiv : a / b = w := by
   have k1 : a * s / (b * s) = a / b := Nat.mul_div_mul_right a b (by omega)
   rw [← k1, h8', Nat.add_comm, Nat.add_mul_div_right _ _ hbs, Nat.div_eq_of_lt h7', jif]
  have hmod : z = a % b * s := by
   have k1 : a * s % (b * s) = a % b * s := Nat.mul_mod_mul_right s a b
   rw [← k1, h8', Nat.add_comm, Nat.add_mul_mod_self_right, jim h7']
  have hzs : z / s = a % b := by rw [hmod, Nat.mul_div_cancel _ (by omega)]
  have hut : val 1000000000 (u.take (p + 2)) = z := by
   rw [jbH 1000000000 u (p + 2) (by omega), h6, Int.mul_zero, jiB] at hz
   exact hz
  have hzl := jav (B := 1000000000) (n := z) (k := p + 2) (by omega) (by omega)
  have hc1 := jfm (u.take (p + 2)) (jbi h3 _) (by rw [jiQ]; omega)
  rw [hut, jih] at hc1
  have hc2 := short_c z s (by omega) (by omega) (by omega)
  rw [hzs] at hc2
  have hc3 := jfm q h5 (by omega)
  rw [hw, jih, ← jja (l := q), h4] at hc3
  rw [hdiv]
  refine V.r3 (V.a2 hVl @jih) hc1 hc2 hc3 ?_
  exact Fin.of rfl
theorem ja6 (a b : Nat) (hb0 : 0 < b) (ha : (mg 1000000000 a).length ≤ 90000000) (hb : (mg 1000000000 b).length ≤ 90000000) : Called Tryz.prog 166 [.ints .u32 (mg 1000000000 a), .ints .u32 (mg 1000000000 b)] (.tup [.ints .u32 (mg 1000000000 (a / b)), .ints .u32 (mg 1000000000 (a % b))]) := by
 rcases jip a b with h | h
 ·exact jhB a b h (by omega) (by omega)
 ·rcases jip b 1000000000 with h1 | h1
  ·exact divide_one a b h hb0 h1 (by omega)
  ·exact jhA a b h h1 ha
end Go.Proofs.YtgjgpdceghjajaaGreatDoor
end
