/- What some functions of the program answer at values that mean given lists, texts and numbers, each proved of the program's own code: part 3. Conditions: those that each theorem names. -/
import Derived.Test.YtpcpgjcdkgcbpaaGreatDoorH1
import Derived.Test.YtpcpgjcdkgcbpaaGreatDoorH2
import Derived.Test.YtpcpgjcdkgcbpaaGreatDoorSi
import Derived.WalkKit
import Derived.BigCall
import Derived.Test.YtpcpgjcdkgcbpaaGreatDoorW9
set_option linter.unusedSimpArgs false
set_option linter.unusedVariables false
set_option maxHeartbeats 8000000
set_option maxRecDepth 100000
section
namespace Go.Nb
structure Kn (B top v2 vr u2 ur head U V P : Int) : Prop where
  hB : 2 ≤ B
  hP : 1 ≤ P
  ht : 1 ≤ top
  hv : V = (top * B + v2) * P + vr
  hu : U = (head * B + u2) * P + ur
  v20 : 0 ≤ v2
  v2B : v2 < B
  u20 : 0 ≤ u2
  u2B : u2 < B
  vr0 : 0 ≤ vr
  vrP : vr < P
  ur0 : 0 ≤ ur
  urP : ur < P
  hh : 0 ≤ head
  htB : top < B
  lt : U < B * V
section
variable {B top v2 vr u2 ur head U V P : Int}
theorem Kn.vpos (K : Kn B top v2 vr u2 ur head U V P) : 0 < V := by
  have h1 : 0 ≤ top * B := Int.mul_nonneg (by have := K.ht; omega) (by have := K.hB; omega)
  have h2 : 1 * 2 ≤ top * B := Int.mul_le_mul K.ht K.hB (by omega) (by have := K.ht; omega)
  have h3 : 1 * 1 ≤ (top * B + v2) * P := Int.mul_le_mul (by have := K.v20; omega) K.hP (by omega) (by have := K.v20; omega)
  have := K.hv
  have := K.vr0
  omega
theorem Kn.ulo (K : Kn B top v2 vr u2 ur head U V P) : head * B * P ≤ U ∧ U < (head + 1) * B * P := by
  have e : (head * B + u2) * P = head * B * P + u2 * P := Int.add_mul _ _ _
  have e2 : (head + 1) * B * P = head * B * P + B * P := by rw [Int.add_mul, Int.one_mul, Int.add_mul]
  have h1 : 0 ≤ u2 * P := Int.mul_nonneg K.u20 (by have := K.hP; omega)
  have h2 : (u2 + 1) * P ≤ B * P := Int.mul_le_mul_of_nonneg_right (by have := K.u2B; omega) (by have := K.hP; omega)
  rw [Int.add_mul, Int.one_mul] at h2
  have := K.hu
  have := K.ur0
  have := K.urP
  omega
theorem Kn.vlo (K : Kn B top v2 vr u2 ur head U V P) : top * B * P ≤ V ∧ V < (top + 1) * B * P := by
  have e : (top * B + v2) * P = top * B * P + v2 * P := Int.add_mul _ _ _
  have e2 : (top + 1) * B * P = top * B * P + B * P := by rw [Int.add_mul, Int.one_mul, Int.add_mul]
  have h1 : 0 ≤ v2 * P := Int.mul_nonneg K.v20 (by have := K.hP; omega)
  have h2 : (v2 + 1) * P ≤ B * P := Int.mul_le_mul_of_nonneg_right (by have := K.v2B; omega) (by have := K.hP; omega)
  rw [Int.add_mul, Int.one_mul] at h2
  have := K.hv
  have := K.vr0
  have := K.vrP
  omega
theorem Kn.bp (K : Kn B top v2 vr u2 ur head U V P) : 0 < B * P := Int.mul_pos (by have := K.hB; omega) (by have := K.hP; omega)
theorem Kn.qlt (K : Kn B top v2 vr u2 ur head U V P) {Q : Int} (h : Q * V ≤ U) : Q < B :=
  Int.lt_of_mul_lt_mul_right (Int.lt_of_le_of_lt h K.lt) (Int.le_of_lt K.vpos)
theorem Kn.init (K : Kn B top v2 vr u2 ur head U V P) {Q : Int} (hQ : 0 ≤ Q) (h : Q * V ≤ U) : Q ≤ head / top := by
  have ht := K.ht
  refine (Int.le_ediv_iff_mul_le (by omega)).2 ?_
  rcases Int.lt_or_le head (Q * top) with hc | hc
  · exfalso
    have h1 : (head + 1) * (B * P) ≤ Q * top * (B * P) := Int.mul_le_mul_of_nonneg_right (by omega) (Int.le_of_lt K.bp)
    have h2 : Q * (top * B * P) ≤ Q * V := Int.mul_le_mul_of_nonneg_left K.vlo.1 hQ
    have h3 := K.ulo.2
    have e1 : (head + 1) * (B * P) = (head + 1) * B * P := (Int.mul_assoc _ _ _).symm
    have e2 : Q * top * (B * P) = Q * (top * B * P) := by simp only [Int.mul_assoc]
    omega
  · exact hc
theorem Kn.step (K : Kn B top v2 vr u2 ur head U V P) {Q q r : Int} (hQ : 0 ≤ Q) (h : Q * V ≤ U) (hq : Q ≤ q) (hr : head = q * top + r) (hc : B ≤ q ∨ r * B + u2 < q * v2) : Q ≤ q - 1 := by
  rcases hc with hc | hc
  · have := K.qlt h
    omega
  · have hq0 : 0 ≤ q := by omega
    have h1 : head * B + u2 + 1 ≤ q * (top * B + v2) := by
      rw [hr, Int.add_mul, Int.mul_add, Int.mul_assoc]
      omega
    have h2 : (head * B + u2 + 1) * P ≤ q * (top * B + v2) * P := Int.mul_le_mul_of_nonneg_right h1 (by have := K.hP; omega)
    rw [Int.add_mul, Int.one_mul] at h2
    have h3 : q * ((top * B + v2) * P) ≤ q * V := Int.mul_le_mul_of_nonneg_left (by have := K.hv; have := K.vr0; omega) hq0
    rw [← Int.mul_assoc] at h3
    have h4 : Q * V < q * V := by
      have := K.hu
      have := K.urP
      omega
    have := Int.lt_of_mul_lt_mul_right h4 (Int.le_of_lt K.vpos)
    omega
theorem Kn.out1 (K : Kn B top v2 vr u2 ur head U V P) {q r : Int} (hq0 : 0 ≤ q) (hr : head = q * top + r) (h1 : q < B) (h2 : q * v2 ≤ r * B + u2) : (q - 1) * V ≤ U := by
  have h3 : q * (top * B + v2) ≤ head * B + u2 := by
    rw [hr, Int.add_mul, Int.mul_add, Int.mul_assoc]
    omega
  have h4 : q * (top * B + v2) * P ≤ (head * B + u2) * P := Int.mul_le_mul_of_nonneg_right h3 (by have := K.hP; omega)
  have e1 : q * V = q * (top * B + v2) * P + q * vr := by rw [K.hv, Int.mul_add, Int.mul_assoc]
  have h5 : q * vr ≤ B * P := by
    have h6 : q * vr ≤ B * vr := Int.mul_le_mul_of_nonneg_right (by omega) K.vr0
    have h7 : B * vr ≤ B * P := Int.mul_le_mul_of_nonneg_left (by have := K.vrP; omega) (by have := K.hB; omega)
    omega
  have h8 : 1 * (B * P) ≤ top * (B * P) := Int.mul_le_mul_of_nonneg_right K.ht (Int.le_of_lt K.bp)
  have e2 : top * (B * P) = top * B * P := (Int.mul_assoc _ _ _).symm
  have h9 := K.vlo.1
  have := K.hu
  have := K.ur0
  rw [Int.sub_mul, Int.one_mul]
  omega
theorem Kn.out2 (K : Kn B top v2 vr u2 ur head U V P) {q r : Int} (hq0 : 0 ≤ q) (hr : head = q * top + r) (h1 : B ≤ r) : q < B ∧ (q - 1) * V ≤ U := by
  have hlo := K.ulo
  have vlo := K.vlo
  have hbp := K.bp
  -- the head is at most top * B + B - 1
  have h2 : head < (top + 1) * B := by
    rcases Int.lt_or_le head ((top + 1) * B) with h | h
    · exact h
    · exfalso
      have h3 : (top + 1) * B * (B * P) ≤ head * (B * P) := Int.mul_le_mul_of_nonneg_right h (Int.le_of_lt hbp)
      have h4 : B * V < B * ((top + 1) * B * P) := Int.mul_lt_mul_of_pos_left vlo.2 (by have := K.hB; omega)
      have e1 : (top + 1) * B * (B * P) = B * ((top + 1) * B * P) := by ac_rfl
      have e2 : head * (B * P) = head * B * P := (Int.mul_assoc _ _ _).symm
      have := K.lt
      omega
  rw [Int.add_mul, Int.one_mul] at h2
  have hqB : q < B := by
    rcases Int.lt_or_le q B with h | h
    · exact h
    · exfalso
      have h3 : B * top ≤ q * top := Int.mul_le_mul_of_nonneg_right h (by have := K.ht; omega)
      rw [Int.mul_comm B top] at h3
      omega
  refine ⟨hqB, ?_⟩
  have h5 : q * top ≤ head - B := by omega
  have h6 : q * top * (B * P) ≤ (head - B) * (B * P) := Int.mul_le_mul_of_nonneg_right h5 (Int.le_of_lt hbp)
  have h7 : q * V ≤ q * ((top + 1) * B * P) := Int.mul_le_mul_of_nonneg_left (Int.le_of_lt vlo.2) hq0
  have h8 : q * (B * P) ≤ B * (B * P) := Int.mul_le_mul_of_nonneg_right (Int.le_of_lt hqB) (Int.le_of_lt hbp)
  have e1 : q * ((top + 1) * B * P) = q * top * (B * P) + q * (B * P) := by
    rw [Int.add_mul, Int.one_mul, Int.add_mul, Int.mul_add]
    simp only [Int.mul_assoc]
  rw [Int.sub_mul] at h6
  have e2 : head * (B * P) = head * B * P := (Int.mul_assoc _ _ _).symm
  have := K.vpos
  rw [Int.sub_mul, Int.one_mul]
  omega
end
end Go.Nb
end
section
namespace Go.Proofs.YtpcpgjcdkgcbpaaGreatDoor
open Go Go.V Go.Nb
theorem red_a {P W V q c b mid wlo un : Int} (hP : 0 < P) (hV0 : 0 < V) (hVP : V ≤ P) (hW : W = wlo + un * P) (hmid : mid - (c + b) * P = wlo - q * V) (hm0 : 0 ≤ mid) (hq : W / V ≤ q) (h : c + b ≤ un) : q = W / V ∧ mid = W % V := by
  have h1 := Int.emod_add_mul_ediv W V
  have h2 := Int.emod_lt_of_pos W hV0
  have h3 : W - q * V = mid + (un - (c + b)) * P := by rw [Int.sub_mul]; omega
  have h4 : 0 ≤ (q - W / V) * V := Int.mul_nonneg (by omega) (by omega)
  rw [Int.sub_mul, Int.mul_comm (W / V)] at h4
  have h5 : un - (c + b) = 0 := by
    rcases Int.lt_or_le 0 (un - (c + b)) with h6 | h6
    · have h7 : 1 * P ≤ (un - (c + b)) * P := Int.mul_le_mul_of_nonneg_right (by omega) (by omega)
      omega
    · omega
  rw [h5, Int.zero_mul, Int.add_zero] at h3
  have h8 : q ≤ W / V := (Int.le_ediv_iff_mul_le hV0).2 (by omega)
  have h9 : q = W / V := by omega
  refine ⟨h9, ?_⟩
  rw [h9, Int.mul_comm] at h3
  omega
theorem red_b {P W V q c b mid mid2 over wlo un : Int} (hP : 0 < P) (hV0 : 0 < V) (hVP : V ≤ P) (hW : W = wlo + un * P) (hmid : mid - (c + b) * P = wlo - q * V) (hm1 : mid < P) (hq1 : (q - 1) * V ≤ W) (h : un < c + b)
    (h2 : mid2 + over * P = mid + V) (h20 : 0 ≤ mid2) (h21 : mid2 < P) : q - 1 = W / V ∧ mid2 = W % V := by
  have h1 := Int.emod_add_mul_ediv W V
  have h3 := Int.emod_lt_of_pos W hV0
  have h30 := Int.emod_nonneg W (by omega : V ≠ 0)
  have h4 : W - q * V = mid + (un - (c + b)) * P := by rw [Int.sub_mul]; omega
  have h5 : 1 * P ≤ (c + b - un) * P := Int.mul_le_mul_of_nonneg_right (by omega) (by omega)
  have h6 : (un - (c + b)) * P = -((c + b - un) * P) := by rw [← Int.neg_mul]; congr 1; omega
  have h7 : q - 1 ≤ W / V := (Int.le_ediv_iff_mul_le hV0).2 hq1
  have h8 : W / V < q := (Int.ediv_lt_iff_lt_mul hV0).2 (by omega)
  have h9 : q - 1 = W / V := by omega
  refine ⟨h9, ?_⟩
  have e1 : W % V = mid2 + (over + un - (c + b)) * P := by
    have e2 : W % V = W - (q - 1) * V := by rw [h9, Int.mul_comm]; omega
    rw [e2, Int.sub_mul, Int.one_mul]
    have e3 : (over + un - (c + b)) * P = over * P + (un - (c + b)) * P := by rw [← Int.add_mul]; congr 1; omega
    rw [e3]; omega
  have e4 : over + un - (c + b) = 0 := by
    rcases Int.lt_trichotomy (over + un - (c + b)) 0 with g | g | g
    · have : (over + un - (c + b)) * P ≤ (-1) * P := Int.mul_le_mul_of_nonneg_right (by omega) (by omega)
      omega
    · exact g
    · have : 1 * P ≤ (over + un - (c + b)) * P := Int.mul_le_mul_of_nonneg_right (by omega) (by omega)
      omega
  rw [e4, Int.zero_mul, Int.add_zero] at e1
  exact e1.symm
theorem red_step {B : Nat} {mid ul vl : List Int} {c b u d r c' b' q : Int} {i : Nat} (hi : mid.length = i) (h : val B mid - (c + b) * (B : Int) ^ i = val B ul - q * val B vl) (hs : r - B * (c' + b') = u - q * d - (c + b)) :
    val B (mid ++ [r]) - (c' + b') * (B : Int) ^ (i + 1) = (val B ul + (B : Int) ^ i * u) - q * (val B vl + (B : Int) ^ i * d) := by
  rw [val_snoc, hi, Int.pow_succ, Int.mul_add]
  generalize (B : Int) ^ i = P at *
  have e1 : P * (r - B * (c' + b')) = P * r - (c' + b') * (P * B) := by rw [Int.mul_sub]; congr 1; ac_rfl
  have e2 : P * (u - q * d - (c + b)) = P * u - q * (P * d) - (c + b) * P := by rw [Int.mul_sub, Int.mul_sub]; congr 1; congr 1; ac_rfl; ac_rfl
  rw [hs, e2] at e1
  omega
theorem mid_set {u A mid : List Int} {k : Nat} {r : Int} (hk : A.length + mid.length = k) (h : k < u.length) : (A ++ mid ++ u.drop k).set k r = A ++ (mid ++ [r]) ++ u.drop (k + 1) := by
  have e : (A ++ mid).length = k := by rw [List.length_append]; exact hk
  rw [List.set_append_right _ _ (by omega), e, Nat.sub_self, List.drop_eq_getElem_cons h, List.set_cons_zero]
  simp
theorem mid_get {u A mid : List Int} {k : Nat} (hk : A.length + mid.length = k) : (A ++ mid ++ u.drop k).getD k 0 = u.getD k 0 := by
  have e : (A ++ mid).length = k := by rw [List.length_append]; exact hk
  rw [List.getD_eq_getElem?_getD, List.getElem?_append_right (by omega), e, Nat.sub_self, List.getElem?_drop, List.getD_eq_getElem?_getD]
  rfl
theorem mid_drop {u A mid : List Int} {k : Nat} (hk : A.length + mid.length = k) : (A ++ mid ++ u.drop k).drop k = u.drop k := by
  have e : (A ++ mid).length = k := by rw [List.length_append]; exact hk
  rw [List.drop_append, e, Nat.sub_self, List.drop_of_length_le (by omega)]
  simp
theorem getD_drop {u : List Int} {j i : Nat} : (u.drop j).getD i 0 = u.getD (j + i) 0 := by
  rw [List.getD_eq_getElem?_getD, List.getElem?_drop, List.getD_eq_getElem?_getD]
theorem val_zero_of_drop {B : Nat} {u : List Int} {k : Nat} (hB : 2 ≤ B) (hd : Dg B u) (h : val B (u.drop k) = 0) : u.getD k 0 = 0 ∧ val B (u.drop (k + 1)) = 0 := by
  rw [val_drop'] at h
  have h1 := dg_getD (by omega) hd k
  have h2 := val_nonneg (dg_drop hd (k + 1))
  have h3 : 0 ≤ (B : Int) * val B (u.drop (k + 1)) := Int.mul_nonneg (by omega) h2
  refine ⟨by omega, ?_⟩
  rcases Int.lt_or_le 0 (val B (u.drop (k + 1))) with h4 | h4
  · have : (B : Int) * 1 ≤ (B : Int) * val B (u.drop (k + 1)) := Int.mul_le_mul_of_nonneg_left (by omega) (by omega)
    omega
  · omega
theorem kn_of {B p j : Nat} {u v : List Int} {W V : Int} (hB : 2 ≤ B) (hu : Dg B u) (hv : Dg B v) (hlv : v.length = p + 2) (hV : val B v = V) (hW : val B (u.drop j) = W) (hz : val B (u.drop (j + (p + 2) + 1)) = 0) (htop : 1 ≤ v.getD (p + 1) 0) (hlt : W < B * V) :
    Kn B (v.getD (p + 1) 0) (v.getD p 0) (val B (v.take p)) (u.getD (j + p) 0) (val B ((u.drop j).take p)) (u.getD (j + (p + 2)) 0 * B + u.getD (j + (p + 1)) 0) W V ((B : Int) ^ p) := by
  have e1 : V = (v.getD (p + 1) 0 * B + v.getD p 0) * (B : Int) ^ p + val B (v.take p) := by
    rw [← hV]
    conv => lhs; rw [← List.take_length (l := v), hlv, val_take_getD, val_take_getD]
    rw [Int.pow_succ]
    generalize (B : Int) ^ p = P
    rw [Int.add_mul]
    have e : v.getD (p + 1) 0 * B * P = P * B * v.getD (p + 1) 0 := by ac_rfl
    have e' : v.getD p 0 * P = P * v.getD p 0 := Int.mul_comm _ _
    omega
  have e2 : W = ((u.getD (j + (p + 2)) 0 * B + u.getD (j + (p + 1)) 0) * B + u.getD (j + p) 0) * (B : Int) ^ p + val B ((u.drop j).take p) := by
    have h1 : val B (u.drop j) = val B ((u.drop j).take p) + (B : Int) ^ p * val B (u.drop (j + p)) := by
      rcases Nat.le_total p (u.drop j).length with h | h
      · rw [val_split B (u.drop j) p h, List.drop_drop]
      · have hz2 : u.drop (j + p) = [] := List.drop_eq_nil_of_le (by rw [List.length_drop] at h; omega)
        rw [List.take_of_length_le h, hz2]; simp [val]
    rw [← hW, h1, val_drop' B u (j + p), val_drop' B u (j + p + 1), val_drop' B u (j + p + 1 + 1)]
    rw [show j + p + 1 + 1 + 1 = j + (p + 2) + 1 by omega, hz, show j + p + 1 + 1 = j + (p + 2) by omega, show j + p + 1 = j + (p + 1) by omega]
    rw [Int.mul_zero, Int.add_zero]
    generalize (B : Int) ^ p = P
    rw [Int.add_comm, Int.mul_comm P]
    congr 2
    rw [Int.mul_comm (B : Int), Int.mul_comm (B : Int), Int.add_comm, Int.add_comm (u.getD (j + (p + 1)) 0)]
  have b1 := dg_getD (by omega) hv (p + 1)
  have b2 := dg_getD (by omega) hv p
  have b3 := dg_getD (by omega) hu (j + p)
  have b4 := dg_getD (by omega) hu (j + (p + 1))
  have b5 := dg_getD (by omega) hu (j + (p + 2))
  have l1 := val_take_lt hB hv p
  have l2 := val_take_lt hB (dg_drop hu j) p
  have l3 := val_nonneg (dg_take hv p)
  have l4 := val_nonneg (dg_take (dg_drop hu j) p)
  have l5 := pow_pos' hB p
  have l6 : 0 ≤ u.getD (j + (p + 2)) 0 * (B : Int) := Int.mul_nonneg b5.1 (by omega)
  exact { hB := by omega, hP := by omega, ht := htop, hv := e1, hu := e2, v20 := b2.1, v2B := b2.2, u20 := b3.1, u2B := b3.2, vr0 := l3, vrP := l1, ur0 := l4, urP := l2, hh := by omega, htB := b1.2, lt := hlt }
theorem div_inv {B p j : Nat} {u q mid : List Int} {Qd W VV M : Int} (hB : 2 ≤ B) (hj : j < q.length) (hju : j + (p + 2) < u.length) (hmid : mid.length = p + 2) (hdu : Dg B u) (hdm : Dg B mid) (h6 : val B (u.drop (j + (p + 2) + 1)) = 0)
    (hW : val B (u.drop j) = W) (hV0 : 0 < VV) (hm : val B mid = W % VV) (hQ : Qd = W / VV) (h8 : M = val B (q.drop (j + 1)) * (B : Int) ^ (j + 1) * VV + val B u) :
    (u.take j ++ (mid ++ [0]) ++ u.drop (j + (p + 2) + 1)).length = u.length ∧ Dg B (u.take j ++ (mid ++ [0]) ++ u.drop (j + (p + 2) + 1)) ∧ val B ((u.take j ++ (mid ++ [0]) ++ u.drop (j + (p + 2) + 1)).drop (j + (p + 2))) = 0 ∧
    val B ((u.take j ++ (mid ++ [0]) ++ u.drop (j + (p + 2) + 1)).drop j) < VV ∧ M = val B ((q.set j Qd).drop j) * (B : Int) ^ j * VV + val B (u.take j ++ (mid ++ [0]) ++ u.drop (j + (p + 2) + 1)) := by
  have hA : (u.take j).length = j := by rw [List.length_take]; omega
  have hl : (u.take j ++ (mid ++ [0]) ++ u.drop (j + (p + 2) + 1)).length = u.length := by
    simp only [List.length_append, List.length_take, List.length_drop, List.length_singleton, hmid]; omega
  have hd : Dg B (u.take j ++ (mid ++ [0]) ++ u.drop (j + (p + 2) + 1)) := dg_append (dg_append (dg_take hdu _) (dg_append hdm (dg_one (by omega)))) (dg_drop hdu _)
  have hz : ∀ P : Int, val B (mid ++ [0] ++ u.drop (j + (p + 2) + 1)) = val B mid := fun _ => by
    rw [val_append, h6, Int.mul_zero, Int.add_zero, val_snoc, Int.mul_zero, Int.add_zero]
  have e1 : (u.take j ++ (mid ++ [0]) ++ u.drop (j + (p + 2) + 1)).drop j = mid ++ [0] ++ u.drop (j + (p + 2) + 1) := by
    rw [List.append_assoc, List.drop_append, hA, Nat.sub_self, List.drop_of_length_le (by omega)]; rfl
  have e2 : (u.take j ++ (mid ++ [0]) ++ u.drop (j + (p + 2) + 1)).drop (j + (p + 2)) = [0] ++ u.drop (j + (p + 2) + 1) := by
    rw [← List.drop_drop, e1, List.append_assoc, List.drop_append, hmid, Nat.sub_self, List.drop_of_length_le (by omega)]; rfl
  have hr := Int.emod_lt_of_pos W hV0
  refine ⟨hl, hd, ?_, ?_, ?_⟩
  · rw [e2, val_append, h6]; simp [val]
  · rw [e1, hz 0, hm]; exact hr
  · have v1 := val_split B u j (by omega)
    rw [hW] at v1
    have v2 : val B (u.take j ++ (mid ++ [0]) ++ u.drop (j + (p + 2) + 1)) = val B (u.take j) + (B : Int) ^ j * (W % VV) := by
      rw [List.append_assoc, val_append, hA, hz 0, hm]
    have v3 := val_drop (B := B) (l := q.set j Qd) (k := j) (by rw [List.length_set]; exact hj)
    rw [getD_set_eq hj, drop_set_gt (l := q) (i := j) (k := j + 1) (by omega)] at v3
    rw [h8, v2, v3, v1, hQ, Int.pow_succ]
    have v4 := Int.emod_add_mul_ediv W VV
    generalize W / VV = Q at *
    generalize W % VV = R at *
    generalize (B : Int) ^ j = P
    generalize val B (q.drop (j + 1)) = q1
    rw [← v4, Int.mul_add, Int.add_mul, Int.add_mul]
    have w1 : q1 * (P * (B : Int)) * VV = (B : Int) * q1 * P * VV := by ac_rfl
    have w2 : P * (VV * Q) = Q * P * VV := by ac_rfl
    rw [w1, w2]
    omega
end Go.Proofs.YtpcpgjcdkgcbpaaGreatDoor
end
section
namespace Go.Proofs.YtpcpgjcdkgcbpaaGreatDoor
open Go Go.V Go.Nb
theorem divide_less (a b : Nat) (h : a < b) (ha : (mg 1000000000 a).length ≤ 100000000) (hb : (mg 1000000000 b).length ≤ 100000000) : Called Tryz.prog 98 [.ints .u32 (mg 1000000000 a), .ints .u32 (mg 1000000000 b)] (.tup [.ints .u32 (mg 1000000000 (a / b)), .ints .u32 (mg 1000000000 (a % b))]) := by
  have hc := compare_c a b ha hb
  rw [Int.sign_eq_neg_one_of_neg (by omega)] at hc
  rw [Nat.div_eq_of_lt h, Nat.mod_eq_of_lt h, mg_zero]
  refine called_of_run tbOk 6 ⟨Tryz.func98, rfl, rfl, Nat.le_of_ble_eq_true rfl⟩ ?_
  (conv => whnf)
  refine V.st ?_
  repeat ((try ((with_reducible refine .ext ?_); (conv => whnf))); (with_reducible refine call_intro (r := ?_) ?_ ?_); rotate_left; (focus (first | exact (hc))); (conv => whnf); refine V.st ?_)
  exact Fin.tup ⟨Fin.nil _, Fin.of rfl, trivial⟩
theorem divide_one (a b : Nat) (h : b ≤ a) (hb : 0 < b) (hb1 : b < 1000000000) (ha : (mg 1000000000 a).length ≤ 100000000) : Called Tryz.prog 98 [.ints .u32 (mg 1000000000 a), .ints .u32 (mg 1000000000 b)] (.tup [.ints .u32 (mg 1000000000 (a / b)), .ints .u32 (mg 1000000000 (a % b))]) := by
  have hc := compare_c a b ha (by have := mg_len_mono (B := 1000000000) (by omega) h; omega)
  have hmb : mg 1000000000 b = [(b : Int)] := by
    rw [mg_pos (by omega) hb, Nat.mod_eq_of_lt hb1, Nat.div_eq_of_lt hb1]; rfl
  have hs0 : 0 ≤ ((a : Int) - b).sign := Int.sign_nonneg_iff.2 (by omega)
  generalize ((a : Int) - b).sign = sg at *
  have hsh := short_c a b ha hb (by omega)
  have hlt : a % b < b := Nat.mod_lt _ hb
  have hfs := fromSmall_c (a % b) (by omega)
  rw [hmb] at hc ⊢
  refine called_of_run tbOk 6 ⟨Tryz.func98, rfl, rfl, Nat.le_of_ble_eq_true rfl⟩ ?_
  (conv => whnf)
  refine V.st ?_
  repeat ((try ((with_reducible refine .ext ?_); (conv => whnf))); (with_reducible refine call_intro (r := ?_) ?_ ?_); rotate_left; (focus (first | exact (hc))); (conv => whnf); refine V.st ?_)
  refine Cnd.no (by rw [decide_eq_false_iff_not]; omega) ?_
  (conv => whnf)
  refine V.st ?_
  refine Cnd.yes (by simp) ?_
  (conv => whnf)
  refine V.st ?_
  repeat ((try ((with_reducible refine .ext ?_); (conv => whnf))); (with_reducible refine call_intro (r := ?_) ?_ ?_); rotate_left; (focus (first | exact (hsh) | exact (hfs))); (conv => whnf); refine V.st ?_)
  exact Fin.of rfl
theorem zK9_0 : type_of% @Int.toNat_natCast ∧ type_of% @Nat.zero_add := ⟨@Int.toNat_natCast, @Nat.zero_add⟩
theorem divide_long (a b : Nat) (h : b ≤ a) (hb1 : 1000000000 ≤ b) (ha : (mg 1000000000 a).length ≤ 90000000) : Called Tryz.prog 98 [.ints .u32 (mg 1000000000 a), .ints .u32 (mg 1000000000 b)] (.tup [.ints .u32 (mg 1000000000 (a / b)), .ints .u32 (mg 1000000000 (a % b))]) := by
  have hlen := mg_len_mono (B := 1000000000) (by omega) h
  have hc := compare_c a b (by omega) (by omega)
  have hs0 : 0 ≤ ((a : Int) - b).sign := Int.sign_nonneg_iff.2 (by omega)
  generalize ((a : Int) - b).sign = sg at *
  obtain ⟨p, hp⟩ : ∃ p, (mg 1000000000 b).length = p + 2 := by
    have := mg_len_mono (B := 1000000000) (by omega) hb1
    have e : mg 1000000000 1000000000 = [0, 1] := by rfl
    rw [e] at this
    exact ⟨(mg 1000000000 b).length - 2, by simp at this; omega⟩
  -- the scale
  have hdb := mg_dg (B := 1000000000) (by omega) b
  have hvb := mg_val (B := 1000000000) (by omega) b
  have hlb := mg_last (B := 1000000000) (n := b) (by omega)
  have hlt1 := mg_lt_pow (B := 1000000000) (n := a) (by omega)
  have ht0 := dg_getD (by omega) hdb (p + 1)
  have ht1 : (mg 1000000000 b).getD (p + 1) 0 ≠ 0 := by
    refine hlb _ ?_
    rw [List.getLast?_eq_getElem?, hp, List.getD_eq_getElem?_getD, show p + 2 - 1 = p + 1 by omega, List.getElem?_eq_getElem (by omega)]; rfl
  generalize hts : (mg 1000000000 b).getD (p + 1) 0 = t at *
  obtain ⟨t, rfl⟩ : ∃ t' : Nat, t = t' := ⟨t.toNat, by omega⟩
  obtain ⟨s, hs⟩ : ∃ s : Nat, 1000000000 / ((t : Int) + 1) = s := ⟨(1000000000 / ((t : Int) + 1)).toNat, by have := Int.ediv_nonneg (a := 1000000000) (b := (t : Int) + 1) (by omega) (by omega); omega⟩
  have hs1 : 1 ≤ s ∧ s < 1000000000 ∧ s * (t + 1) ≤ 1000000000 := by
    have e1 : s = 1000000000 / (t + 1) := by
      have : ((1000000000 / (t + 1) : Nat) : Int) = 1000000000 / ((t : Int) + 1) := by rw [Int.natCast_ediv]; rfl
      omega
    refine ⟨?_, ?_, ?_⟩
    · rw [e1]; exact (Nat.le_div_iff_mul_le (by omega)).2 (by omega)
    · rw [e1]; exact Nat.div_lt_of_lt_mul (by omega)
    · rw [e1]; exact Nat.div_mul_le_self _ _
  have hms : mg 1000000000 s = [(s : Int)] := by
    rw [mg_pos (by omega) (by omega), Nat.mod_eq_of_lt (by omega), Nat.div_eq_of_lt (by omega)]; rfl
  have htm1 := times_c b s (by omega) (by rw [hms]; simp)
  have htm2 := times_c a s (by omega) (by rw [hms]; simp)
  rw [hms] at htm1 htm2
  -- the divisor, scaled
  have hbt : b < (t + 1) * 1000000000 ^ (p + 1) ∧ t * 1000000000 ^ (p + 1) ≤ b := by
    have h1 := val_ends (B := 1000000000) (by omega) hdb (p + 1)
    rw [val_drop', hts, List.drop_eq_nil_of_le (by omega), hvb] at h1
    simp only [val, Int.mul_zero, Int.add_zero] at h1
    have e : ((1000000000 : Nat) : Int) ^ (p + 1) = ((1000000000 ^ (p + 1) : Nat) : Int) := by rw [Int.natCast_pow]
    rw [e] at h1
    have e1 : ((t : Int) + 1) = ((t + 1 : Nat) : Int) := by omega
    rw [e1, ← Int.natCast_mul, ← Int.natCast_mul] at h1
    omega
  have hPp : 0 < 1000000000 ^ (p + 1) := Nat.pow_pos (by omega)
  have hVlt : b * s < 1000000000 ^ (p + 2) := by
    have h1 : b * s < (t + 1) * 1000000000 ^ (p + 1) * s := Nat.mul_lt_mul_of_pos_right hbt.1 (by omega)
    have h2 : s * (t + 1) * 1000000000 ^ (p + 1) ≤ 1000000000 * 1000000000 ^ (p + 1) := Nat.mul_le_mul_right _ hs1.2.2
    have e1 : (t + 1) * 1000000000 ^ (p + 1) * s = s * (t + 1) * 1000000000 ^ (p + 1) := by ac_rfl
    rw [Nat.pow_succ 1000000000 (p + 1), Nat.mul_comm (1000000000 ^ (p + 1))]
    omega
  have hVge : s * 1000000000 ^ (p + 1) ≤ b * s := by
    have h1 : 1 * 1000000000 ^ (p + 1) ≤ t * 1000000000 ^ (p + 1) := Nat.mul_le_mul_right _ (by omega)
    rw [Nat.mul_comm b]
    exact Nat.mul_le_mul_left _ (by omega)
  have hVl : (mg 1000000000 (b * s)).length = p + 2 := by
    have h1 := mg_len_le (B := 1000000000) (n := b * s) (k := p + 2) (by omega) hVlt
    rcases Nat.lt_or_ge (mg 1000000000 (b * s)).length (p + 2) with h2 | h2
    · have h3 := mg_lt_pow (B := 1000000000) (n := b * s) (by omega)
      have h4 : 1000000000 ^ (mg 1000000000 (b * s)).length ≤ 1000000000 ^ (p + 1) := Nat.pow_le_pow_right (by omega) (by omega)
      have h5 : 1 * 1000000000 ^ (p + 1) ≤ s * 1000000000 ^ (p + 1) := Nat.mul_le_mul_right _ hs1.1
      omega
    · omega
  have hdV := mg_dg (B := 1000000000) (by omega) (b * s)
  have hvV := mg_val (B := 1000000000) (by omega) (b * s)
  have hlV := mg_last (B := 1000000000) (n := b * s) (by omega)
  have htV : (mg 1000000000 (b * s)).getD (p + 1) 0 ≠ 0 := by
    refine hlV _ ?_
    rw [List.getLast?_eq_getElem?, hVl, List.getD_eq_getElem?_getD, show p + 2 - 1 = p + 1 by omega, List.getElem?_eq_getElem (by omega)]; rfl
  have hM : (mg 1000000000 (a * s)).length ≤ (mg 1000000000 a).length + 1 := by
    have := mg_len_mul (B := 1000000000) (by omega) a s
    rw [hms] at this
    simpa using this
  have hdM := mg_dg (B := 1000000000) (by omega) (a * s)
  have hvM := mg_val (B := 1000000000) (by omega) (a * s)
  have hMlt : a * s < s * 1000000000 ^ (mg 1000000000 a).length := by
    rw [Nat.mul_comm]; exact Nat.mul_lt_mul_of_pos_left hlt1 (by omega)
  generalize hmb : mg 1000000000 b = bs at *
  generalize hma : mg 1000000000 a = xs at *
  generalize hmV : mg 1000000000 (b * s) = vs at *
  generalize hmM : mg 1000000000 (a * s) = ms at *
  have e1 : ((bs.length : Int) - 1).toNat = p + 1 := by omega
  obtain ⟨N, hN⟩ : ∃ N, N = xs.length + 1 := ⟨_, rfl⟩
  obtain ⟨L, hL⟩ : ∃ L, L = xs.length - vs.length := ⟨_, rfl⟩
  obtain ⟨L1, hL1⟩ : ∃ L1, L1 = L + 1 := ⟨_, rfl⟩
  have e2 : (xs.length : Int) + 1 = (N : Int) := by omega
  have e3 : (xs.length : Int) - ((p + 2 : Nat) : Int) = (L : Int) := by omega
  have e4 : (L : Int) + 1 = (L1 : Int) := by omega
  refine called_of_run tbOk 6 ⟨Tryz.func98, rfl, rfl, Nat.le_of_ble_eq_true rfl⟩ ?_
  (conv => whnf)
  refine V.st ?_
  repeat ((try ((with_reducible refine .ext ?_); (conv => whnf))); (with_reducible refine call_intro (r := ?_) ?_ ?_); rotate_left; (focus (first | exact (hc))); (conv => whnf); refine V.st ?_)
  refine Cnd.no (by rw [decide_eq_false_iff_not]; omega) ?_
  (conv => whnf)
  refine V.st ?_
  refine Cnd.no (by rw [decide_eq_false_iff_not]; omega) ?_
  (conv => whnf)
  (try simp only [e1, e2, e3, e4, hts, hs, hVl, Int.toNat_natCast])
  repeat ((first | refine V.s1 ?_ | ((try ((with_reducible refine .ext ?_); (conv => whnf); (try simp only [e1, e2, e3, e4, hts, hs, hVl, Int.toNat_natCast]))); (with_reducible refine call_intro (r := ?_) ?_ ?_); rotate_left; (focus (first | exact (htm1) | exact (htm2))); (conv => whnf))); (try simp only [e1, e2, e3, e4, hts, hs, hVl, Int.toNat_natCast]))
  have hu0 : setAt (List.replicate N 0) 0 (List.take N ms) = ms ++ List.replicate (N - ms.length) 0 := by
    unfold setAt
    rw [List.take_zero, List.nil_append, List.take_of_length_le (l := ms) (by omega), Nat.zero_add, List.drop_replicate]
  have hu0v : val 1000000000 (ms ++ List.replicate (N - ms.length) 0) = (a * s : Nat) := by
    rw [val_append, val_zeros, Int.mul_zero, Int.add_zero, hvM]
  simp only [hu0]
  refine lp_any ((L1, ms ++ List.replicate (N - ms.length) 0, List.replicate L1 0) : Nat × List Int × List Int) (fun x => x.1 ≤ L1 ∧ x.2.1.length = N ∧ Dg 1000000000 x.2.1 ∧ x.2.2.length = L1 ∧ Dg 1000000000 x.2.2 ∧ val 1000000000 (x.2.1.drop (x.1 + (p + 2))) = 0 ∧ val 1000000000 (x.2.1.drop x.1) < (b * s : Nat) ∧ ((a * s : Nat) : Int) = val 1000000000 (x.2.2.drop x.1) * ((1000000000 : Nat) : Int) ^ x.1 * (b * s : Nat) + val 1000000000 x.2.1) (fun x => x.1)
    (fun x => [(12, .int .i64 ((x.1 : Int) - 1)), (4, .osl 62 0 L1), (10, .osl 48 0 N)]) (fun x => [(62, .arr .u32 x.2.2), (48, .arr .u32 x.2.1)]) ?_ ?_ ?_
  · rw [show ((L1 : Int) - 1) = (L : Int) by omega]
    exact V.wk
  · refine ⟨Nat.le_refl _, by simp; omega, dg_append hdM (dg_zeros (by omega) _), by simp, dg_zeros (by omega) _, ?_, ?_, ?_⟩
    · dsimp only
      rw [List.drop_of_length_le (by simp; omega)]; rfl
    · dsimp only
      have h1 := val_ends (B := 1000000000) (by omega) (dg_append hdM (dg_zeros (by omega) (N - ms.length))) L1
      rw [hu0v] at h1
      generalize val 1000000000 ((ms ++ List.replicate (N - ms.length) 0).drop L1) = z at *
      have h2 : ((1000000000 : Nat) : Int) ^ L1 = ((1000000000 ^ L1 : Nat) : Int) := by rw [Int.natCast_pow]
      have h3 : 0 < 1000000000 ^ L1 := Nat.pow_pos (by omega)
      have h4 : a * s < (s * 1000000000 ^ (p + 1)) * 1000000000 ^ L1 := by
        rw [Nat.mul_assoc, ← Nat.pow_add, show p + 1 + L1 = xs.length by omega]; exact hMlt
      have h5 : (s * 1000000000 ^ (p + 1)) * 1000000000 ^ L1 ≤ (b * s) * 1000000000 ^ L1 := Nat.mul_le_mul_right _ hVge
      rw [h2] at h1
      refine Int.lt_of_mul_lt_mul_right (a := ((1000000000 ^ L1 : Nat) : Int)) ?_ (by omega)
      rw [← Int.natCast_mul]
      omega
    · dsimp only
      rw [List.drop_of_length_le (by simp), hu0v]; simp [val]
  rintro ⟨k, u, q⟩ ⟨h1, h2, h3, h4, h5, h6, h7, h8⟩
  dsimp only at h1 h2 h3 h4 h5 h6 h7 h8 ⊢
  (conv => whnf)
  refine V.st ?_
  refine Cnd.split (CondB.mk (fun hq => ?_) (fun hq => ?_))
  · rw [decide_eq_true_eq] at hq
    obtain ⟨j, rfl⟩ : ∃ j, k = j + 1 := ⟨k - 1, by omega⟩
    have f1 : (((j + 1 : Nat) : Int) - 1) = (j : Int) := by omega
    have f2 : (j : Int) + ((p + 2 : Nat) : Int) = ((j + (p + 2) : Nat) : Int) := by omega
    have f4 : ((j + (p + 2) : Nat) : Int) + 1 = ((j + (p + 3) : Nat) : Int) := by omega
    have f5 : j + (p + 3) - j = p + 3 := by omega
    have f6 : ((p + 2 : Nat) : Int) - 1 = ((p + 1 : Nat) : Int) := by omega
    have f7 : ((p + 2 : Nat) : Int) - 2 = ((p : Nat) : Int) := by omega
    -- what is looked at
    obtain ⟨W, hW⟩ : ∃ W, val 1000000000 (u.drop j) = W := ⟨_, rfl⟩
    obtain ⟨VV, hVV⟩ : ∃ VV : Int, ((b * s : Nat) : Int) = VV := ⟨_, rfl⟩
    rw [hVV] at h7 h8 hvV
    have bv1 := dg_getD (by omega) hdV (p + 1)
    have bu := dg_getD (by omega) h3 j
    have hWlt : W < 1000000000 * VV := by
      rw [val_drop'] at hW; omega
    have hkn := kn_of (B := 1000000000) (p := p) (j := j) (u := u) (v := vs) (W := W) (V := VV) (by omega) h3 hdV hVl hvV hW (by rw [show j + (p + 2) + 1 = j + 1 + (p + 2) by omega]; exact h6) (by omega) hWlt
    have hVpos := hkn.vpos
    have hW0 : 0 ≤ W := by rw [← hW]; exact val_nonneg (dg_drop h3 j)
    have b1 := dg_getD (by omega) h3 (j + (p + 2))
    have b2 := dg_getD (by omega) h3 (j + (p + 1))
    have b3 := dg_getD (by omega) h3 (j + p)
    have b4 := dg_getD (by omega) hdV p
    generalize hg1 : u.getD (j + (p + 2)) 0 = un at *
    generalize hg2 : u.getD (j + (p + 1)) 0 = u1 at *
    generalize hg3 : u.getD (j + p) 0 = u0 at *
    generalize hg4 : vs.getD (p + 1) 0 = vt at *
    generalize hg5 : vs.getD p 0 = v2 at *
    (conv => whnf)
    (try simp only [zK9_0, f1, f2, f4, f5, f6, f7])
    repeat ((first | refine V.s1 ?_); (try simp only [zK9_0, f1, f2, f4, f5, f6, f7]))
    refine .inl ?_
    (conv => whnf)
    refine ⟨0, _, _, ⟨Tryz.func138, rfl, rfl, Nat.le_of_ble_eq_true rfl⟩, ?_⟩
    (conv => whnf)
    (conv => whnf)
    (try simp only [zK9_0, f1, f2, f4, f5, f6, f7, hVl, hg4])
    repeat ((first | refine V.s1 ?_); (try simp only [zK9_0, f1, f2, f4, f5, f6, f7, hVl, hg4]))
    refine ⟨(.take 0 (.take 1 (.take 2 (.take 3 (.take 4 (.take 5 (.take 6 (.take 7 (.take 8 (.take 9 (.take 10 (.take 11 (.take 12 (.take 13 (.done))))))))))))))), [], ⟨by kernel_rfl, by kernel_rfl, by kernel_rfl, by kernel_rfl⟩, .go (drawD_one ?_)⟩
    (conv => whnf)
    (try simp only [zK9_0, f1, f2, f4, f5, f6, f7, hVl, hg1, hg2])
    repeat ((first | refine V.s1 ?_); (try simp only [zK9_0, f1, f2, f4, f5, f6, f7, hVl, hg1, hg2]))
    refine ⟨(.take 0 (.take 1 (.take 2 (.take 3 (.take 4 (.take 5 (.take 6 (.take 7 (.done))))))))), [], ⟨by kernel_rfl, by kernel_rfl, by kernel_rfl, by kernel_rfl⟩, .go (drawD_one ?_)⟩
    (conv => whnf)
    (try simp only [zK9_0, f1, f2, f4, f5, f6, f7, hVl, hg1, hg2])
    repeat ((first | refine V.s1 ?_); (try simp only [zK9_0, f1, f2, f4, f5, f6, f7, hVl, hg1, hg2]))
    have hkn' : Kn 1000000000 vt v2 (val 1000000000 (vs.take p)) u0 (val 1000000000 ((u.drop j).take p)) (un * 1000000000 + u1) W VV (((1000000000 : Nat) : Int) ^ p) := hkn
    have hQ0 : 0 ≤ W / VV := Int.ediv_nonneg hW0 (by omega)
    have hQm : W / VV * VV ≤ W := Int.ediv_mul_le _ (by omega)
    have hQi := hkn'.init hQ0 hQm
    have hhd : 0 ≤ un * 1000000000 + u1 ∧ un * 1000000000 + u1 < 1000000000000000000 := by omega
    generalize hHD : un * 1000000000 + u1 = HD at *
    refine lp_exit (β := Int × Int) 0 (fun y => 0 ≤ y.1 ∧ y.1 < 1000000000 ∧ (y.1 - 1) * VV ≤ W ∧ W / VV ≤ y.1) (fun y => [(8, .int .u64 y.1), (9, .int .u64 y.2)]) (fun _ => []) ?_ ?_
    · refine lp_any ((HD / vt, HD % vt) : Int × Int) (fun y => HD = y.1 * vt + y.2 ∧ (0 ≤ y.2 ∧ y.2 < 1000000000) ∧ W / VV ≤ y.1) (fun y => y.1.toNat) (fun y => [(8, .int .u64 y.1), (9, .int .u64 y.2)]) (fun _ => []) ?_ ?_ ?_
      · exact V.wk
      · have hvtp : (0 : Int) < vt := by omega
        refine ⟨by dsimp only; have := Int.emod_add_mul_ediv HD vt; rw [Int.mul_comm]; omega, ⟨Int.emod_nonneg _ (by omega), ?_⟩, hQi⟩
        have := Int.emod_lt_of_pos HD hvtp
        dsimp only; omega
      rintro ⟨qq, r⟩ ⟨i1, i2, i3⟩
      dsimp only at i1 i2 i3 ⊢
      have hqv : qq < 1000000000 → 0 ≤ qq * v2 ∧ qq * v2 ≤ 999999999 * 999999999 := fun h => ⟨Int.mul_nonneg (by omega) (by omega), Int.mul_le_mul (by omega) (by omega) (by omega) (by omega)⟩
      (conv => whnf)
      (try simp only [zK9_0, f1, f2, f4, f5, f6, f7, hVl])
      repeat ((first | refine V.s1 ?_); (try simp only [zK9_0, f1, f2, f4, f5, f6, f7, hVl]))
      refine ⟨(.take 0 (.take 1 (.take 2 (.take 3 (.take 4 (.take 5 (.take 6 (.take 7 (.take 8 (.take 9 (.take 10 (.take 11 (.take 12 (.take 13 (.take 14 (.take 15 (.take 16 (.take 17 (.take 18 (.take 19 (.take 20 (.take 21 (.done))))))))))))))))))))))), [], ⟨by kernel_rfl, by kernel_rfl, by kernel_rfl, by kernel_rfl⟩, .go (drawD_one ?_)⟩
      (conv => whnf)
      (try simp only [zK9_0, f1, f2, f4, f5, f6, f7, hVl, hg5, hg3])
      repeat ((first | refine V.s1 ?_); (try simp only [zK9_0, f1, f2, f4, f5, f6, f7, hVl, hg5, hg3]))
      refine Or.inl (And.intro (fun h _ _ => ?_) ?_)
      · have h9 := hqv (by simpa using h)
        exact ⟨by simp only [V.lo]; omega, by simp only [V.hi]; omega⟩
      (conv => whnf)
      (try simp only [zK9_0, f1, f2, f4, f5, f6, f7, hVl, hg5, hg3])
      repeat ((first | refine V.s1 ?_); (try simp only [zK9_0, f1, f2, f4, f5, f6, f7, hVl, hg5, hg3]))
      refine Cnd.split (CondB.mk (fun hq5 => ?_) (fun hq5 => ?_))
      · rw [Bool.or_eq_true, decide_eq_true_eq, decide_eq_true_eq] at hq5
        have hst := hkn'.step hQ0 hQm i3 i1 (by omega)
        have hqpos : 1 ≤ qq := by omega
        have hrec : HD = (qq - 1) * vt + (r + vt) := by rw [Int.sub_mul, Int.one_mul]; omega
        (conv => whnf)
        (try simp only [zK9_0, f1, f2, f4, f5, f6, f7, hVl])
        repeat ((first | refine V.s1 ?_); (try simp only [zK9_0, f1, f2, f4, f5, f6, f7, hVl]))
        refine Cnd.split (CondB.mk (fun hq6 => ?_) (fun hq6 => ?_))
        · rw [decide_eq_true_eq] at hq6
          have ho := hkn'.out2 (q := qq - 1) (r := r + vt) (by omega) hrec hq6
          (conv => whnf)
          (try simp only [zK9_0, f1, f2, f4, f5, f6, f7, hVl])
          repeat ((first | refine V.s1 ?_); (try simp only [zK9_0, f1, f2, f4, f5, f6, f7, hVl]))
          exact ⟨(qq - 1, r + vt), ⟨by dsimp only; omega, ho.1, ho.2, hst⟩, V.wk⟩
        · rw [decide_eq_false_iff_not] at hq6
          (conv => whnf)
          (try simp only [zK9_0, f1, f2, f4, f5, f6, f7, hVl])
          repeat ((first | refine V.s1 ?_); (try simp only [zK9_0, f1, f2, f4, f5, f6, f7, hVl]))
          exact ⟨(qq - 1, r + vt), ⟨hrec, by dsimp only; omega, hst⟩, by dsimp only; omega, V.wk⟩
      · rw [Bool.or_eq_false_iff, decide_eq_false_iff_not, decide_eq_false_iff_not] at hq5
        have ho := hkn'.out1 (q := qq) (r := r) (by omega) i1 (by omega) (by omega)
        (conv => whnf)
        (try simp only [zK9_0, f1, f2, f4, f5, f6, f7, hVl])
        repeat ((first | refine V.s1 ?_); (try simp only [zK9_0, f1, f2, f4, f5, f6, f7, hVl]))
        exact ⟨(qq, r), ⟨by dsimp only; omega, by dsimp only; omega, ho, i3⟩, V.wk⟩
    · rintro ⟨qq, r⟩ ⟨i1, i2, i3, i4⟩
      dsimp only at i1 i2 i3 i4 ⊢
      (conv => whnf)
      (try simp only [zK9_0, f1, f2, f4, f5, f6, f7, hVl])
      repeat ((first | refine V.s1 ?_); (try simp only [zK9_0, f1, f2, f4, f5, f6, f7, hVl]))
      have hAl : (u.take j).length = j := by rw [List.length_take]; omega
      have hnl : u.take j ++ [] ++ u.drop (j + 0) = u := by rw [List.append_nil, Nat.add_zero, List.take_append_drop]
      refine lp_any ((0, [], 0, 0) : Nat × List Int × Int × Int) (fun y => y.1 ≤ p + 2 ∧ y.2.1.length = y.1 ∧ Dg 1000000000 y.2.1 ∧ (0 ≤ y.2.2.1 ∧ y.2.2.1 < 1000000000) ∧ (0 ≤ y.2.2.2 ∧ y.2.2.2 ≤ 1) ∧ val 1000000000 y.2.1 - (y.2.2.1 + y.2.2.2) * ((1000000000 : Nat) : Int) ^ y.1 = val 1000000000 ((u.drop j).take y.1) - qq * val 1000000000 (vs.take y.1)) (fun y => p + 2 - y.1)
        (fun y => [(77, .int .i64 y.1), (10, .int .u64 y.2.2.1), (11, .int .i64 y.2.2.2)]) (fun y => [(48, .arr .u32 (u.take j ++ y.2.1 ++ u.drop (j + y.1)))]) ?_ ?_ ?_
      · rw [hnl]
        exact V.wk
      · exact ⟨Nat.zero_le _, rfl, fun x hx => by simp at hx, by simp, by simp, by simp [val]⟩
      rintro ⟨i, mid, c, bw⟩ ⟨g1, g2, g3, g4, g5, g6⟩
      dsimp only at g1 g2 g3 g4 g5 g6 ⊢
      have hvu := val_take_getD 1000000000 (u.drop j) i
      have hvv := val_take_getD 1000000000 vs i
      rw [getD_drop] at hvu
      have bd := dg_getD (by omega) hdV i
      have bui := dg_getD (by omega) h3 (j + i)
      have hcl : (u.take j ++ mid ++ u.drop (j + i)).length = N := by
        rw [List.length_append, List.length_append, hAl, g2, List.length_drop]; omega
      have hcg := mid_get (u := u) (A := u.take j) (mid := mid) (k := j + i) (by omega)
      (conv => whnf)
      (try simp only [zK9_0, f1, f2, f4, f5, f6, f7, hVl])
      repeat ((first | refine V.s1 ?_); (try simp only [zK9_0, f1, f2, f4, f5, f6, f7, hVl]))
      refine Cnd.split (CondB.mk (fun hw => ?_) (fun hw => ?_))
      · rw [decide_eq_true_eq] at hw
        have hms2 := fun r => mid_set (u := u) (A := u.take j) (mid := mid) (k := j + i) (r := r) (by omega) (by omega)
        generalize hd0 : vs.getD i 0 = d at *
        generalize hui : u.getD (j + i) 0 = ui at *
        have hqd : 0 ≤ qq * d ∧ qq * d ≤ 999999999 * 999999999 := ⟨Int.mul_nonneg (by omega) (by omega), Int.mul_le_mul (by omega) (by omega) (by omega) (by omega)⟩
        have hki : ((i : Int) + 1) = ((i + 1 : Nat) : Int) := by omega
        have hai : j + i + 1 = j + (i + 1) := by omega
        generalize hqd0 : qq * d = qd at *
        (conv => whnf)
        (try simp only [zK9_0, f1, f2, f4, f5, f6, f7, hVl, hd0, hcg, hki, hqd0])
        repeat ((first | refine V.s1 ?_); (try simp only [zK9_0, f1, f2, f4, f5, f6, f7, hVl, hd0, hcg, hki, hqd0]))
        refine Cnd.split (CondB.mk (fun hneg => ?_) (fun hneg => ?_))
        · rw [decide_eq_true_eq] at hneg
          have hst := red_step (B := 1000000000) (q := qq) (d := d) (u := ui) (r := ui - bw - (c + qd) % 1000000000 + 1000000000) (c' := (c + qd) / 1000000000) (b' := 1) g2 g6 (by rw [hqd0]; have := Int.emod_add_mul_ediv (c + qd) 1000000000; omega)
          rw [← hvu, ← hvv] at hst
          (conv => whnf)
          (try simp only [zK9_0, f1, f2, f4, f5, f6, f7, hVl, hd0, hcg, hki, hms2, hai])
          repeat ((first | refine V.s1 ?_); (try simp only [zK9_0, f1, f2, f4, f5, f6, f7, hVl, hd0, hcg, hki, hms2, hai]))
          exact ⟨(i + 1, mid ++ [ui - bw - (c + qd) % 1000000000 + 1000000000], (c + qd) / 1000000000, 1), ⟨by dsimp only; omega, by simp [g2], dg_append g3 (dg_one (by omega)), by dsimp only; omega, by simp, hst⟩, by dsimp only; omega, V.wk⟩
        · rw [decide_eq_false_iff_not] at hneg
          have hst := red_step (B := 1000000000) (q := qq) (d := d) (u := ui) (r := ui - bw - (c + qd) % 1000000000) (c' := (c + qd) / 1000000000) (b' := 0) g2 g6 (by rw [hqd0]; have := Int.emod_add_mul_ediv (c + qd) 1000000000; omega)
          rw [← hvu, ← hvv] at hst
          (conv => whnf)
          (try simp only [zK9_0, f1, f2, f4, f5, f6, f7, hVl, hd0, hcg, hki, hms2, hai])
          repeat ((first | refine V.s1 ?_); (try simp only [zK9_0, f1, f2, f4, f5, f6, f7, hVl, hd0, hcg, hki, hms2, hai]))
          exact ⟨(i + 1, mid ++ [ui - bw - (c + qd) % 1000000000], (c + qd) / 1000000000, 0), ⟨by dsimp only; omega, by simp [g2], dg_append g3 (dg_one (by omega)), by dsimp only; omega, by simp, hst⟩, by dsimp only; omega, V.wk⟩
      · rw [decide_eq_false_iff_not] at hw
        obtain rfl : i = p + 2 := by omega
        rw [hg1] at hcg
        (conv => whnf)
        (try simp only [zK9_0, f1, f2, f4, f5, f6, f7, hVl, hcg])
        repeat ((first | refine V.s1 ?_); (try simp only [zK9_0, f1, f2, f4, f5, f6, f7, hVl, hcg]))
        have h6' : val 1000000000 (u.drop (j + (p + 2) + 1)) = 0 := by rw [show j + (p + 2) + 1 = j + 1 + (p + 2) by omega]; exact h6
        have hWs : W = val 1000000000 ((u.drop j).take (p + 2)) + un * ((1000000000 : Nat) : Int) ^ (p + 2) := by
          have k1 := val_split 1000000000 (u.drop j) (p + 2) (by rw [List.length_drop]; omega)
          rw [hW, List.drop_drop, val_drop' 1000000000 u (j + (p + 2)), h6', hg1, Int.mul_zero, Int.add_zero, Int.mul_comm] at k1
          exact k1
        have hvsV : val 1000000000 (vs.take (p + 2)) = VV := by rw [← hVl, List.take_length, hvV]
        rw [hvsV] at g6
        have hPn : (0 : Int) < ((1000000000 : Nat) : Int) ^ (p + 2) := pow_pos' (by omega) _
        have hVP : VV ≤ ((1000000000 : Nat) : Int) ^ (p + 2) := by
          have k1 : ((b * s : Nat) : Int) < ((1000000000 ^ (p + 2) : Nat) : Int) := by exact_mod_cast hVlt
          rw [Int.natCast_pow] at k1
          omega
        have hm0 := val_nonneg g3
        have hm1 := val_lt g3
        rw [g2] at hm1
        have hsetz := mid_set (u := u) (A := u.take j) (mid := mid) (k := j + (p + 2)) (r := 0) (by omega) (by omega)
        refine Cnd.split (CondB.mk (fun hc2 => ?_) (fun hc2 => ?_))
        · rw [decide_eq_true_eq] at hc2
          have hq1 : 1 ≤ qq := by
            rcases Int.lt_or_le qq 1 with k0 | k0
            · obtain rfl : qq = 0 := by omega
              exfalso
              rw [Int.zero_mul, Int.sub_zero] at g6
              have k3 : 0 ≤ val 1000000000 ((u.drop j).take (p + 2)) := val_nonneg (dg_take (dg_drop h3 j) _)
              rcases Int.lt_or_le 0 (c + bw) with k4 | k4
              · have k5 : 1 * ((1000000000 : Nat) : Int) ^ (p + 2) ≤ (c + bw) * ((1000000000 : Nat) : Int) ^ (p + 2) := Int.mul_le_mul_of_nonneg_right (by omega) (by omega)
                omega
              · omega
            · exact k0
          have hml : (u.take j ++ mid ++ u.drop (j + (p + 2))).length = N := by
            rw [List.length_append, List.length_append, hAl, g2, List.length_drop]; omega
          obtain ⟨w, hw1⟩ : ∃ w, w = u.take j ++ mid ++ u.drop (j + (p + 2)) := ⟨_, rfl⟩
          have hwd : w.drop (j + (p + 2)) = u.drop (j + (p + 2)) := by rw [hw1]; exact mid_drop (by omega)
          have hwg : ∀ i, i < p + 2 → w.getD (j + i) 0 = mid.getD i 0 := fun i hi => by
            rw [hw1, List.append_assoc, List.getD_eq_getElem?_getD, List.getElem?_append_right (by omega), hAl, Nat.add_sub_cancel_left, List.getElem?_append_left (by omega), List.getD_eq_getElem?_getD]
          have hnl2 : u.take j ++ [] ++ w.drop (j + 0) = w := by
            have : u.take j = w.take j := by rw [hw1, List.append_assoc, List.take_append_of_le_length (by omega), List.take_take, Nat.min_self]
            rw [this, List.append_nil, Nat.add_zero, List.take_append_drop]
          rw [← hw1] at hml
          simp only [← hw1]
          (conv => whnf)
          (try simp only [zK9_0, f1, f2, f4, f5, f6, f7, hVl])
          repeat ((first | refine V.s1 ?_); (try simp only [zK9_0, f1, f2, f4, f5, f6, f7, hVl]))
          refine lp_any ((0, [], 0) : Nat × List Int × Int) (fun y => y.1 ≤ p + 2 ∧ y.2.1.length = y.1 ∧ Dg 1000000000 y.2.1 ∧ (0 ≤ y.2.2 ∧ y.2.2 ≤ 1) ∧ val 1000000000 y.2.1 + y.2.2 * ((1000000000 : Nat) : Int) ^ y.1 = val 1000000000 (mid.take y.1) + val 1000000000 (vs.take y.1)) (fun y => p + 2 - y.1)
            (fun y => [(125, .int .i64 y.1), (15, .int .u32 y.2.2)]) (fun y => [(48, .arr .u32 (u.take j ++ y.2.1 ++ w.drop (j + y.1)))]) ?_ ?_ ?_
          · rw [hnl2]
            exact V.wk
          · exact ⟨Nat.zero_le _, rfl, fun x hx => by simp at hx, by simp, by simp [val]⟩
          rintro ⟨i, m2, ov⟩ ⟨k1, k2, k3, k4, k5⟩
          dsimp only at k1 k2 k3 k4 k5 ⊢
          have hvm := val_take_getD 1000000000 mid i
          have hvv2 := val_take_getD 1000000000 vs i
          have bd := dg_getD (by omega) hdV i
          have bmi := dg_getD (by omega) g3 i
          have hcg2 := mid_get (u := w) (A := u.take j) (mid := m2) (k := j + i) (by omega)
          have hcl2 : (u.take j ++ m2 ++ w.drop (j + i)).length = N := by
            rw [List.length_append, List.length_append, hAl, k2, List.length_drop]; omega
          (conv => whnf)
          (try simp only [zK9_0, f1, f2, f4, f5, f6, f7, hVl])
          repeat ((first | refine V.s1 ?_); (try simp only [zK9_0, f1, f2, f4, f5, f6, f7, hVl]))
          refine Cnd.split (CondB.mk (fun hw2 => ?_) (fun hw2 => ?_))
          · rw [decide_eq_true_eq] at hw2
            have hms3 := fun r => mid_set (u := w) (A := u.take j) (mid := m2) (k := j + i) (r := r) (by omega) (by omega)
            rw [hwg i (by omega)] at hcg2
            generalize hd0 : vs.getD i 0 = d at *
            generalize hmi : mid.getD i 0 = mi at *
            have hki : ((i : Int) + 1) = ((i + 1 : Nat) : Int) := by omega
            have hai : j + i + 1 = j + (i + 1) := by omega
            (conv => whnf)
            (try simp only [zK9_0, f1, f2, f4, f5, f6, f7, hVl, hd0, hcg2, hki])
            repeat ((first | refine V.s1 ?_); (try simp only [zK9_0, f1, f2, f4, f5, f6, f7, hVl, hd0, hcg2, hki]))
            refine Cnd.split (CondB.mk (fun hge => ?_) (fun hge => ?_))
            · rw [decide_eq_true_eq] at hge
              have hst := add_step (B := 1000000000) (x := mi) (y := d) (d := mi + d + ov - 1000000000) (c' := 1) k2 k5 (by omega)
              rw [← hvm, ← hvv2] at hst
              (conv => whnf)
              (try simp only [zK9_0, f1, f2, f4, f5, f6, f7, hVl, hki, hms3, hai])
              repeat ((first | refine V.s1 ?_); (try simp only [zK9_0, f1, f2, f4, f5, f6, f7, hVl, hki, hms3, hai]))
              exact ⟨(i + 1, m2 ++ [mi + d + ov - 1000000000], 1), ⟨by dsimp only; omega, by simp [k2], dg_append k3 (dg_one (by omega)), by simp, hst⟩, by dsimp only; omega, V.wk⟩
            · rw [decide_eq_false_iff_not] at hge
              have hst := add_step (B := 1000000000) (x := mi) (y := d) (d := mi + d + ov) (c' := 0) k2 k5 (by omega)
              rw [← hvm, ← hvv2] at hst
              (conv => whnf)
              (try simp only [zK9_0, f1, f2, f4, f5, f6, f7, hVl, hki, hms3, hai])
              repeat ((first | refine V.s1 ?_); (try simp only [zK9_0, f1, f2, f4, f5, f6, f7, hVl, hki, hms3, hai]))
              exact ⟨(i + 1, m2 ++ [mi + d + ov], 0), ⟨by dsimp only; omega, by simp [k2], dg_append k3 (dg_one (by omega)), by simp, hst⟩, by dsimp only; omega, V.wk⟩
          · rw [decide_eq_false_iff_not] at hw2
            obtain rfl : i = p + 2 := by omega
            rw [hvsV, ← g2, List.take_length, g2] at k5
            have hn0 := val_nonneg k3
            have hn1 := val_lt k3
            rw [k2] at hn1
            have hrb := red_b hPn hVpos hVP hWs g6 hm1 i3 (by omega) k5 hn0 hn1
            have hinv := div_inv (B := 1000000000) (p := p) (j := j) (u := u) (q := q) (mid := m2) (Qd := qq - 1) (M := ((a * s : Nat) : Int)) (by omega) (by omega) (by omega) k2 h3 k3 h6' hW hVpos hrb.2 hrb.1 h8
            have hsetz2 := mid_set (u := u) (A := u.take j) (mid := m2) (k := j + (p + 2)) (r := 0) (by omega) (by omega)
            (conv => whnf)
            (try simp only [zK9_0, f1, f2, f4, f5, f6, f7, hVl, hwd, hsetz2])
            repeat ((first | refine V.s1 ?_); (try simp only [zK9_0, f1, f2, f4, f5, f6, f7, hVl, hwd, hsetz2]))
            exact ⟨(j, u.take j ++ (m2 ++ [0]) ++ u.drop (j + (p + 2) + 1), q.set j (qq - 1)), ⟨by dsimp only; omega, by dsimp only; rw [hinv.1]; exact h2, hinv.2.1, by dsimp only; rw [List.length_set]; exact h4, dg_set h5 (by omega), hinv.2.2.1, by dsimp only; rw [hVV]; exact hinv.2.2.2.1, by dsimp only; rw [hVV]; exact hinv.2.2.2.2⟩, by dsimp only; omega, V.wk⟩
        · rw [decide_eq_false_iff_not] at hc2
          have hra := red_a hPn hVpos hVP hWs g6 hm0 i4 (by omega)
          have hinv := div_inv (B := 1000000000) (p := p) (j := j) (u := u) (q := q) (mid := mid) (Qd := qq) (M := ((a * s : Nat) : Int)) (by omega) (by omega) (by omega) g2 h3 g3 h6' hW hVpos hra.2 hra.1 h8
          (conv => whnf)
          (try simp only [zK9_0, f1, f2, f4, f5, f6, f7, hVl, hsetz])
          repeat ((first | refine V.s1 ?_); (try simp only [zK9_0, f1, f2, f4, f5, f6, f7, hVl, hsetz]))
          exact ⟨(j, u.take j ++ (mid ++ [0]) ++ u.drop (j + (p + 2) + 1), q.set j qq), ⟨by dsimp only; omega, by dsimp only; rw [hinv.1]; exact h2, hinv.2.1, by dsimp only; rw [List.length_set]; exact h4, dg_set h5 ⟨i1, i2⟩, hinv.2.2.1, by dsimp only; rw [hVV]; exact hinv.2.2.2.1, by dsimp only; rw [hVV]; exact hinv.2.2.2.2⟩, by dsimp only; omega, V.wk⟩
  · rw [decide_eq_false_iff_not] at hq
    obtain rfl : k = 0 := by omega
    rw [List.drop_zero, Int.pow_zero, Int.mul_one] at h8
    rw [List.drop_zero] at h7
    rw [Nat.zero_add] at h6
    have hvq := val_nonneg h5
    have hvu := val_nonneg h3
    obtain ⟨w, hw⟩ : ∃ w : Nat, val 1000000000 q = w := ⟨(val 1000000000 q).toNat, by omega⟩
    obtain ⟨z, hz⟩ : ∃ z : Nat, val 1000000000 u = z := ⟨(val 1000000000 u).toNat, by omega⟩
    rw [hw, hz, ← Int.natCast_mul, ← Int.natCast_add] at h8
    rw [hz] at h7
    have h8' : a * s = w * (b * s) + z := by exact_mod_cast h8
    have h7' : z < b * s := by exact_mod_cast h7
    have hbs : 0 < b * s := by omega
    have hdiv : a / b = w := by
      have k1 : a * s / (b * s) = a / b := Nat.mul_div_mul_right a b (by omega)
      rw [← k1, h8', Nat.add_comm, Nat.add_mul_div_right _ _ hbs, Nat.div_eq_of_lt h7', Nat.zero_add]
    have hmod : z = a % b * s := by
      have k1 : a * s % (b * s) = a % b * s := Nat.mul_mod_mul_right s a b
      rw [← k1, h8', Nat.add_comm, Nat.add_mul_mod_self_right, Nat.mod_eq_of_lt h7']
    have hzs : z / s = a % b := by rw [hmod, Nat.mul_div_cancel _ (by omega)]
    have hut : val 1000000000 (u.take (p + 2)) = z := by
      rw [val_split 1000000000 u (p + 2) (by omega), h6, Int.mul_zero, Int.add_zero] at hz
      exact hz
    have hzl := mg_len_le (B := 1000000000) (n := z) (k := p + 2) (by omega) (by omega)
    have hc1 := trim_c (u.take (p + 2)) (dg_take h3 _) (by rw [List.length_take]; omega)
    rw [hut, Int.toNat_natCast] at hc1
    have hc2 := short_c z s (by omega) (by omega) (by omega)
    rw [hzs] at hc2
    have hc3 := trim_c q h5 (by omega)
    rw [hw, Int.toNat_natCast, ← List.take_length (l := q), h4] at hc3
    rw [hdiv]
    (conv => whnf)
    (try simp only [hVl, Int.toNat_natCast])
    repeat ((first | refine V.s1 ?_ | ((try ((with_reducible refine .ext ?_); (conv => whnf); (try simp only [hVl, Int.toNat_natCast]))); (with_reducible refine call_intro (r := ?_) ?_ ?_); rotate_left; (focus (first | exact (hc1) | exact (hc2) | exact (hc3))); (conv => whnf))); (try simp only [hVl, Int.toNat_natCast]))
    exact Fin.of rfl
theorem divide_c (a b : Nat) (hb0 : 0 < b) (ha : (mg 1000000000 a).length ≤ 90000000) (hb : (mg 1000000000 b).length ≤ 90000000) : Called Tryz.prog 98 [.ints .u32 (mg 1000000000 a), .ints .u32 (mg 1000000000 b)] (.tup [.ints .u32 (mg 1000000000 (a / b)), .ints .u32 (mg 1000000000 (a % b))]) := by
  rcases Nat.lt_or_ge a b with h | h
  · exact divide_less a b h (by omega) (by omega)
  · rcases Nat.lt_or_ge b 1000000000 with h1 | h1
    · exact divide_one a b h hb0 h1 (by omega)
    · exact divide_long a b h h1 ha
end Go.Proofs.YtpcpgjcdkgcbpaaGreatDoor
end
section
namespace Go.Proofs.YtpcpgjcdkgcbpaaGreatDoor
open Go Go.RowKit Go.Proofs
set_option maxHeartbeats 4000000
set_option maxRecDepth 1000000
theorem bTp : Tryz.prog.underlying 180 = some (.pointer 183) := by kernel_rfl
theorem bUp : Tryz.prog.underlying 214 = some .unsafePointer := by kernel_rfl
theorem bSl : Tryz.prog.underlying 181 = some (.slice 5) := by kernel_rfl
theorem bStr : Tryz.prog.underlying 9 = some .string := by kernel_rfl
theorem bSize : (Tryz.prog.info? 183).map (·.size) = some 2 := by kernel_rfl
theorem bLies : liesAt Tryz.prog Tryz.prog.depth 183 (2 / Tryz.prog.cellsOf 183) 0 183 1 = true := by kernel_rfl
theorem bByte : (Tryz.prog.info? 5).map (fun i => (i.zero, i.size, i.bytes)) = some (some (.int .u8 0), 1, 1) := by kernel_rfl
theorem copyCheck_used (b : Nat) (w : World) (h0 : w.cell? ⟨b, 0, none⟩ = some (.pointer (some ⟨b, 0, none⟩))) :
    Calls Tryz.prog 168 #[.pointer (some ⟨b, 0, none⟩)] w fun e w' => e = .returned (.tuple #[]) ∧ w' = w := by
  obtain ⟨j, hj, _⟩ := Option.map_eq_some_iff.1 bSize
  go_enter Tryz.func168, Tryz.ntmps168
  go_wp2
  rw [Lib.run_neq_ptr_same w _ bTp hj]
  go_wp2
  go_end0
  exact ⟨rfl, rfl⟩
theorem copyCheck_fresh (b : Nat) (w : World) (h0 : w.cell? ⟨b, 0, none⟩ = some (.pointer none)) (hsh : w.shape? b = some (183, 2)) (hfz : w.frozen? ⟨b, 0, none⟩ = false) :
    Calls Tryz.prog 168 #[.pointer (some ⟨b, 0, none⟩)] w fun e w' => e = .returned (.tuple #[]) ∧ w' = w.setCell ⟨b, 0, none⟩ (.pointer (some ⟨b, 0, none⟩)) := by
  obtain ⟨j, hj, hjs⟩ := Option.map_eq_some_iff.1 bSize
  go_enter Tryz.func168, Tryz.ntmps168
  go_wp2
  rw [Lib.run_to_unsafe w ⟨b, 0, none⟩ bTp bUp hj (by rw [hjs]; decide) hsh (Nat.zero_lt_succ 1)]
  simp only [Result.andThen]
  rw [Oper.upon_value]
  go_wp2
  rw [run_callFunc_extern Tryz.func181 (by kernel_rfl) (by kernel_rfl) (by kernel_rfl) (e := Extern.AbiNoEscape.same) (by kernel_rfl)]
  rw [Lib.run_noEscape]
  simp only [Result.andThen]
  rw [Oper.upon_value]
  go_wp2
  rw [Lib.run_from_unsafe w ⟨b, 0, none⟩ bUp bTp hj hsh bLies]
  simp only [Result.andThen]
  rw [Oper.upon_value]
  go_wp2
  go_end0
  exact ⟨rfl, rfl⟩
theorem copyCheck_k (B b : Nat) (bs : List Value) (w : World) (h : Lib.IsBuilderF 183 5 B b bs w) :
    Calls Tryz.prog 168 #[.pointer (some ⟨b, 0, none⟩)] w fun e w' => e = .returned (.tuple #[]) ∧ (Lib.BuilderAtF 183 5 B b (.pointer (some ⟨b, 0, none⟩)) bs w' ∧ Below B w w' ∧ Lib.OthersKept 5 (some b) w w') := by
  rcases h with h | h
  · refine (copyCheck_fresh b w h.cell0 h.shape h.frozen0).mono ?_
    rintro e w' ⟨rfl, rfl⟩
    exact ⟨rfl, h.used _, (Below.refl B w).setCell (p := ⟨b, 0, none⟩) h.1 _, (Lib.OthersKept.refl _ _ w).setCell ⟨b, 0, none⟩ rfl _⟩
  · refine (copyCheck_used b w h.cell0).mono ?_
    rintro e w' ⟨rfl, rfl⟩
    exact ⟨rfl, h, Below.refl B _, Lib.OthersKept.refl _ _ _⟩
theorem writeByte_k (B b : Nat) (bs : List Value) (c : Int) (w : World) (h : Lib.IsBuilderF 183 5 B b bs w) (hlen : bs.length + 1 ≤ 140737488355328) (hBw : B ≤ w.heap.size) :
    Calls Tryz.prog 149 #[.pointer (some ⟨b, 0, none⟩), .int .u8 c] w fun e w' => e = .returned .nilIface ∧ (Lib.BuilderAtF 183 5 B b (.pointer (some ⟨b, 0, none⟩)) (bs ++ [.int .u8 c]) w' ∧ Below B w w' ∧ Lib.OthersKept 5 (some b) w w') := by
  obtain ⟨i0, hi, hz0, hz1, hz2⟩ := info_parts bByte
  go_enter Tryz.func149, Tryz.ntmps149
  go_wp2_with (go_at_call 168; refine (copyCheck_k B b bs _ h).mono ?_)
  rintro e w1 ⟨rfl, h1, hb1, hk1⟩
  obtain ⟨hB, v, hbk, hown, hne⟩ := h1
  have c0 : w1.cell? ⟨b, 0, none⟩ = some (.pointer (some ⟨b, 0, none⟩)) := by rw [Lib.cell_of_heap hbk]; rfl
  have c1 : w1.cell? ⟨b, 1, none⟩ = some v := by rw [Lib.cell_of_heap hbk]; rfl
  go_wp2_with (at_builtin; refine wpList_append_ownF _ rfl _ _ 181 rfl B 5 i0 (.int .u8 0) 1 1 bSl hi hz0 hz1 hz2 rfl (by decide) _ _ _ rfl (hown.alloc _) ⟨w1.heap.size, 0, none⟩ 1 1 [.int .u8 c] rfl rfl ?c1 ?c2 ?c3 ?c4 ?c5 ?_)
  case c1 =>
    intro j u hj
    match j, hj with
    | 0, hj => simp at hj; subst hj; simp [Addr.add]
  case c2 => intro u hu; simp at hu; subst hu; rfl
  case c3 => unfold maxLen; omega
  case c4 => omega
  case c5 => have := hb1.size; simp; omega
  intro v' w2 hown' hgrow _
  have hlt : b < w1.heap.size := by
    rcases Nat.lt_or_ge b w1.heap.size with h' | h'
    · exact h'
    · simp [Array.getElem?_eq_none h'] at hbk
  have hb2 : w2.heap[b]? = some (.cells #[.pointer (some ⟨b, 0, none⟩), v] 183 (0, 0)) := by
    rw [hgrow.block b (by simp; omega) (fun e => hne e.symm), Lib.alloc_old w1 _ b hlt]
    exact hbk
  have d0 : w2.cell? ⟨b, 0, none⟩ = some (.pointer (some ⟨b, 0, none⟩)) := by rw [Lib.cell_of_heap hb2]; rfl
  have d1 : w2.cell? ⟨b, 1, none⟩ = some v := by rw [Lib.cell_of_heap hb2]; rfl
  have f1 : w2.frozen? ⟨b, 1, none⟩ = false := Lib.frozen_of_heap hb2 1
  obtain ⟨g, cap, rfl⟩ : ∃ g cap, v' = .slice (some ⟨g, 0, none⟩) (bs.length + 1) cap := by
    rcases hown'.2 with ⟨_, h0⟩ | ⟨g, cap, cur, fz, hv, _⟩
    · omega
    · exact ⟨g, cap, hv⟩
  go_wp2
  go_ret
  refine ⟨rfl, ?_, ?_, ((hk1.alloc _).grown hgrow (Lib.ownsRowF_kind (hown.alloc _))).setCell ⟨b, 1, none⟩ rfl _⟩
  · exact Lib.BuilderAtF.put (T := 183) (e := 5) hB hb2 (bs' := bs ++ [.int .u8 c]) (by simpa using hown') (by decide)
  · exact ((hb1.alloc (by have := hb1.size; omega) _).grown hgrow (by have := hb1.size; simp; omega) (fun k hk => (hown.lt k hk).1)).setCell (p := ⟨b, 1, none⟩) hB _
theorem writeString_k (B b : Nat) (bs : List Value) (s : ByteArray) (w : World) (h : Lib.IsBuilderF 183 5 B b bs w) (hlen : bs.length + s.size ≤ 140737488355328) (hBw : B ≤ w.heap.size) :
    Calls Tryz.prog 150 #[.pointer (some ⟨b, 0, none⟩), .string s] w fun e w' => e = .returned (.tuple #[.int .i64 s.size, .nilIface]) ∧ (Lib.BuilderAtF 183 5 B b (.pointer (some ⟨b, 0, none⟩)) (bs ++ Lib.strCells s) w' ∧ Below B w w' ∧ Lib.OthersKept 5 (some b) w w') := by
  obtain ⟨i0, hi, hz0, hz1, hz2⟩ := info_parts bByte
  go_enter Tryz.func150, Tryz.ntmps150
  go_wp2_with (go_at_call 168; refine (copyCheck_k B b bs _ h).mono ?_)
  rintro e w1 ⟨rfl, h1, hb1, hk1⟩
  obtain ⟨hB, v, hbk, hown, hne⟩ := h1
  have c0 : w1.cell? ⟨b, 0, none⟩ = some (.pointer (some ⟨b, 0, none⟩)) := by rw [Lib.cell_of_heap hbk]; rfl
  have c1 : w1.cell? ⟨b, 1, none⟩ = some v := by rw [Lib.cell_of_heap hbk]; rfl
  go_wp2_with (at_builtin; refine Lib.wpList_append_own_stringF _ rfl _ _ 181 9 rfl B 5 i0 bSl bStr hi hz0 hz1 hz2 _ _ _ rfl hown s rfl ?c3 ?c4 ?c5 ?_)
  case c3 => unfold maxLen; omega
  case c4 => omega
  case c5 => have := hb1.size; omega
  intro v' w2 hown' hgrow _
  have hlt : b < w1.heap.size := by
    rcases Nat.lt_or_ge b w1.heap.size with h' | h'
    · exact h'
    · simp [Array.getElem?_eq_none h'] at hbk
  have hb2 : w2.heap[b]? = some (.cells #[.pointer (some ⟨b, 0, none⟩), v] 183 (0, 0)) := by
    rw [hgrow.block b hlt (fun e => hne e.symm)]
    exact hbk
  have d0 : w2.cell? ⟨b, 0, none⟩ = some (.pointer (some ⟨b, 0, none⟩)) := by rw [Lib.cell_of_heap hb2]; rfl
  have d1 : w2.cell? ⟨b, 1, none⟩ = some v := by rw [Lib.cell_of_heap hb2]; rfl
  have f1 : w2.frozen? ⟨b, 1, none⟩ = false := Lib.frozen_of_heap hb2 1
  obtain ⟨ao, n', cap, rfl⟩ : ∃ ao n' cap, v' = .slice ao n' cap := by
    rcases hown'.2 with ⟨hv, _⟩ | ⟨g, cap, cur, fz, hv, _⟩
    · exact ⟨_, _, _, hv⟩
    · exact ⟨_, _, _, hv⟩
  go_wp2
  go_ret2
  refine ⟨rfl, ?_, ?_, (hk1.grown hgrow (Lib.ownsRowF_kind hown)).setCell ⟨b, 1, none⟩ rfl _⟩
  · exact Lib.BuilderAtF.put (T := 183) (e := 5) hB hb2 (bs' := bs ++ Lib.strCells s) (by simpa [Lib.strCells_length] using hown') (by decide)
  · exact (hb1.grown hgrow (by have := hb1.size; omega) (fun k hk => (hown.lt k hk).1)).setCell (p := ⟨b, 1, none⟩) hB _
end Go.Proofs.YtpcpgjcdkgcbpaaGreatDoor
end
section
namespace Go.Proofs.YtpcpgjcdkgcbpaaGreatDoor
open Go Go.V Go.Nb Go.RowKit Go.Proofs
set_option maxHeartbeats 4000000
set_option maxRecDepth 1000000
theorem called_at {P : Program} {f : Nat} {ds : List D} {r : D} (c : Called P f ds r) (w : World) (hg : GlW w) {vs : List Value} (hd : DenL Env.dummy (pubOf w) ds vs) :
    Calls P f vs.toArray w fun e w' => ∃ v h', e = .returned v ∧ Den Env.dummy h' r v ∧ RowKit.Below w.heap.size w w' := by
  refine (c.call (pubOf w) w vs (agree_pubOf w hg) hd).mono fun e w' ⟨v, h', he, hv, _, _, hb, _⟩ => ⟨v, h', he, hv, hb⟩
theorem glW_below {B : Nat} {w w' : World} (h : GlW w) (hb : RowKit.Below B w w') (hlt : GlLt B) : GlW w' := ⟨fun g vs hg => by
  obtain ⟨h1, T, f, h2⟩ := h.1 g vs hg
  exact ⟨h1, T, f, by rw [hb.block g (hlt.1 g vs hg)]; exact h2⟩, fun g hg => by
  obtain ⟨tp, p, T, f, h2⟩ := h.2 g hg
  exact ⟨tp, p, T, f, by rw [hb.block g (hlt.2 g hg)]; exact h2⟩⟩
theorem glLt {w : World} (h : GlW w) : GlLt w.heap.size := ⟨fun g vs hg => by
  obtain ⟨_, T, f, h2⟩ := h.1 g vs hg
  exact (Array.getElem?_eq_some_iff.1 h2).1, fun g hg => by
  obtain ⟨_, _, T, f, h2⟩ := h.2 g hg
  exact (Array.getElem?_eq_some_iff.1 h2).1⟩
theorem itoa_k (n : Int) (h : InR .i64 n) (w : World) (hg : GlW w) : Calls Tryz.prog 130 #[.int .i64 n] w fun e w' => e = .returned (.string ⟨(decZ n).toArray⟩) ∧ RowKit.Below w.heap.size w w' := by
  refine (called_at (itoa_c n) w hg (vs := [.int .i64 n]) ?_).mono ?_
  · simp only [DenL, Den]; exact ⟨_, _, rfl, ⟨rfl, h⟩, rfl⟩
  · rintro e w' ⟨v, h', rfl, hv, hb⟩
    simp only [Den] at hv
    rw [hv.1]
    exact ⟨rfl, hb⟩
theorem isB_below {T e B b : Nat} {bs : List Value} {w w' : World} (h : Lib.IsBuilderF T e B b bs w) (hb : RowKit.Below w.heap.size w w') : Lib.IsBuilderF T e B b bs w' := by
  have key : ∀ p, Lib.BuilderAtF T e B b p bs w → Lib.BuilderAtF T e B b p bs w' := by
    rintro p ⟨h1, v, h2, ⟨h3, h4⟩, h5⟩
    refine ⟨h1, v, by rw [hb.block b (Array.getElem?_eq_some_iff.1 h2).1]; exact h2, ⟨h3, ?_⟩, h5⟩
    rcases h4 with h4 | ⟨g, cap, cur, fz, g1, g2, g3, g4⟩
    · exact .inl h4
    · exact .inr ⟨g, cap, cur, fz, g1, g2, by rw [hb.block g (Array.getElem?_eq_some_iff.1 g3).1]; exact g3, g4⟩
  exact h.elim (fun x => .inl (key _ x)) (fun x => .inr (key _ x))
theorem byteCells_rep (k : Nat) (bs : List UInt8) : Lib.byteCells (bs ++ List.replicate (k + 1) 48) = Lib.byteCells (bs ++ List.replicate k 48) ++ [.int .u8 48] := by
  rw [List.replicate_succ', ← List.append_assoc, Lib.byteCells_append]; rfl
theorem strCells_dec (l : List UInt8) : Lib.strCells ⟨l.toArray⟩ = Lib.byteCells l := by
  simp [Lib.strCells, Lib.byteCells]
theorem put_k (B b : Nat) (bs : List UInt8) (g : Nat) (k : Int) (w : World) (hgl : GlW w) (hlt : GlLt B) (hB : B ≤ w.heap.size) (h : Lib.IsBuilderF 183 5 B b (Lib.byteCells bs) w) (hg : g < 1000000000) (hk : 0 ≤ k ∧ k ≤ 9) (hl : bs.length ≤ 1000000000000) :
    Calls Tryz.prog 148 #[.int .u32 g, .int .i64 k, .pointer (some ⟨b, 0, none⟩)] w fun e w' => e = .returned (.tuple #[]) ∧ Lib.IsBuilderF 183 5 B b (Lib.byteCells (bs ++ List.replicate (k.toNat - (dec g).length) 48 ++ dec g)) w' ∧ RowKit.Below B w w' := by
  go_enter Tryz.func148, Tryz.ntmps148
  go_wp2_with (go_at_call 130; refine (itoa_k (g : Int) ⟨by simp only [lo]; omega, by simp only [hi]; omega⟩ _ hgl).mono ?_)
  rintro e w1 ⟨rfl, hb1⟩
  have hdz : decZ (g : Int) = dec g := by unfold decZ; rw [if_neg (by omega), Int.natAbs_natCast]
  rw [hdz]
  have hdl := dec_len g 9 (by omega) (by omega)
  have h1 := isB_below h hb1
  have hs1 := hb1.size
  have hb1' := hb1.mono hB
  have hsz : (⟨(dec g).toArray⟩ : ByteArray).size = (dec g).length := by simp [ByteArray.size]
  go_wp2
  clear hdz
  go_loopw [13] (fun i wr => ∃ n : Nat, n ≤ k.toNat - (dec g).length ∧ i = .int .i64 n ∧ Lib.IsBuilderF 183 5 B b (Lib.byteCells (bs ++ List.replicate n 48)) wr ∧ RowKit.Below B w1 wr) (fun i _ => k.toNat - (dec g).length - (intOf i).toNat)
  case atStart => exact ⟨0, Nat.zero_le _, rfl, by simpa using h1, Below.refl _ _⟩
  case round =>
    obtain ⟨n, hn, rfl, hI, hbr⟩ := hrel
    have hsr := hbr.size
    have hlen : (Lib.byteCells (bs ++ List.replicate n 48)).length ≤ 1000000000100 := by rw [Lib.byteCells_length]; simp; omega
    by_cases hlt2 : (n : Int) < k - ((dec g).length : Int)
    · go_wp2_with (go_at_call 149; refine (writeByte_k B b _ 48 _ hI (by omega) (by omega)).mono ?_)
      rintro e W1 ⟨rfl, h2, b2, _⟩
      rw [← byteCells_rep] at h2
      go_wp2
      go_roundw
      case rel => exact ⟨n + 1, by omega, by go_num, Or.inr (by assumption), hbr.trans b2⟩
      case measure => simp [intOf]; omega
    · have hne : n = k.toNat - (dec g).length := by omega
      go_wp2_with (go_at_call 150; refine (writeString_k B b _ _ _ hI (by omega) (by omega)).mono ?_)
      rintro e W1 rfl h2 b2 -
      rw [strCells_dec, ← Lib.byteCells_append] at h2
      go_wp2
      go_end0
      exact ⟨rfl, Or.inr h2, (hb1'.trans hbr).trans b2⟩
end Go.Proofs.YtpcpgjcdkgcbpaaGreatDoor
end
section
namespace Go.Proofs.YtpcpgjcdkgcbpaaGreatDoor
open Go Go.V Go.Nb Go.RowKit Go.Proofs
set_option maxHeartbeats 4000000
set_option maxRecDepth 1000000
theorem zero_k (n : Nat) (w : World) (hg : GlW w) (v : Value) (hv : Den Env.dummy (pubOf w) (.ints .u32 (mg 1000000000 n)) v) : Calls Tryz.prog 127 #[v] w fun e w' => e = .returned (.bool (decide (n = 0))) ∧ RowKit.Below w.heap.size w w' := by
  refine (called_at (zero_c n) w hg (vs := [v]) ?_).mono ?_
  · simp only [DenL]; exact ⟨_, _, rfl, hv, rfl⟩
  · rintro e w' ⟨v, h', rfl, hv, hb⟩
    simp only [Den] at hv
    rw [hv]
    exact ⟨rfl, hb⟩
def cv : Nat → Int
  | 0 => -1
  | k + 1 => k
theorem cv_eq (m : Nat) : cv m = (m : Int) - 1 := by cases m <;> simp [cv]
theorem digits_w (n : Nat) (hn : 0 < n) (hl : (mg 1000000000 n).length ≤ 100000000) (w : World) (hg : GlW w) (hlt : GlLt w.heap.size) (v : Value) (hv : Den Env.dummy (pubOf w) (.ints .u32 (mg 1000000000 n)) v) :
    Calls Tryz.prog 113 #[v] w fun e w' => e = .returned (.string ⟨(dec n).toArray⟩) ∧ RowKit.Below w.heap.size w w' := by
  have hz := zero_k n w hg v hv
  have hdx := mg_dg (B := 1000000000) (by omega) n
  have hvx := mg_val (B := 1000000000) (by omega) n
  have hlx := mg_last (B := 1000000000) (n := n) (by omega)
  have hnil := mg_nil (B := 1000000000) (n := n) (by omega)
  generalize mg 1000000000 n = xs at *
  simp only [Den, slIntsOk] at hv
  obtain ⟨a, cap, rfl, hcap, _, _, ha⟩ := hv
  obtain ⟨j, hj⟩ : ∃ j, xs.length = j + 1 := ⟨xs.length - 1, by
    have : xs ≠ [] := fun e => by have := hnil.1 e; omega
    have := List.length_pos_iff.2 this
    omega⟩
  obtain ⟨ad, rfl⟩ : ∃ ad, a = some ad := by
    cases a with
    | none => obtain ⟨h1, _⟩ := ha; rw [h1] at hj; simp at hj
    | some ad => exact ⟨ad, rfl⟩
  obtain ⟨blk, off, spot⟩ := ad
  simp only at ha
  obtain ⟨rfl, hcell⟩ := ha
  have hne : decide (n = 0) = false := decide_eq_false (by omega)
  rw [hne] at hz
  have hc0 : ∀ i, i < xs.length → w.cell? ⟨blk, off + i, none⟩ = some (.int .u32 (xs.getD i 0)) := fun i hi => by
    have := hcell i (xs.getD i 0) (by rw [List.getD_eq_getElem?_getD, List.getElem?_eq_getElem hi]; rfl)
    exact this
  have hblk : blk < w.heap.size := by
    have := hc0 0 (by omega)
    rcases Nat.lt_or_ge blk w.heap.size with h | h
    · exact h
    · simp [World.cell?, Array.getElem?_eq_none h] at this
  clear hcell
  rw [hj] at hz ⊢
  go_enter Tryz.func113, Tryz.ntmps113
  go_wp2_with (go_at_call 127; refine hz.mono ?_)
  rintro e w1 ⟨rfl, hb1⟩
  have hs1 := hb1.size
  have hc1 : (w1.alloc (.cells #[.pointer none, .slice none 0 0] 183)).cell? ⟨blk, off + j, none⟩ = some (.int .u32 (xs.getD j 0)) := by
    have h1 := hb1.alloc (o := .cells #[.pointer none, .slice none 0 0] 183) (by omega)
    rw [h1.cell (by exact hblk)]
    exact hc0 j (by omega)
  have hI0 := Lib.IsBuilderF.of (Lib.fresh_isBuilder 183 5 w1)
  have hgl1 : GlW (w1.alloc (.cells #[.pointer none, .slice none 0 0] 183)) := glW_below hg (hb1.alloc (by omega) _) hlt
  have hlt1 : GlLt w1.heap.size := ⟨fun g vs h => by have := hlt.1 g vs h; omega, fun g h => by have := hlt.2 g h; omega⟩
  have bx := dg_getD (by omega) hdx j
  have hx1 : xs.getD j 0 ≠ 0 := by
    refine hlx _ ?_
    rw [List.getLast?_eq_getElem?, hj, List.getD_eq_getElem?_getD, show j + 1 - 1 = j by omega, List.getElem?_eq_getElem (by omega)]; rfl
  have hvj : val 1000000000 (xs.drop j) = xs.getD j 0 := by rw [val_drop', show xs.drop (j + 1) = [] from List.drop_eq_nil_of_le (by omega)]; simp [val]
  obtain ⟨g, hgx⟩ : ∃ g : Nat, xs.getD j 0 = g := ⟨(xs.getD j 0).toNat, by omega⟩
  rw [hgx] at bx hx1 hvj hc1
  have hput := put_k w1.heap.size w1.heap.size [] g 0 (w1.alloc (.cells #[.pointer none, .slice none 0 0] 183)) hgl1 hlt1 (by simp) hI0 (by omega) (by omega) (by simp)
  have e0 : List.replicate ((0 : Int).toNat - (dec g).length) (48 : UInt8) = [] := by simp
  rw [e0, List.append_nil, List.nil_append] at hput
  clear hz hI0
  go_wp2_with (go_at_call 148; refine hput.mono ?_)
  rintro e w2 ⟨rfl, hI2, hb2⟩
  have hbw2 : RowKit.Below w.heap.size w w2 := (hb1.alloc (by omega) _).trans (hb2.mono hs1)
  have hs2 : w1.heap.size + 1 ≤ w2.heap.size := by have := hb2.size; simpa using this
  have hd0 : dec g = dec (val 1000000000 (xs.drop j)).toNat := by rw [hvj, Int.toNat_natCast]
  rw [hd0] at hI2
  clear hput hd0
  go_wp2
  go_loopw [6] (fun i wr => ∃ m : Nat, m ≤ j ∧ i = .int .i64 (cv m) ∧ Lib.IsBuilderF 183 5 w1.heap.size w1.heap.size (Lib.byteCells (dec (val 1000000000 (xs.drop m)).toNat)) wr ∧ RowKit.Below w1.heap.size w2 wr) (fun i _ => (intOf i + 1).toNat)
  case atStart => exact ⟨j, Nat.le_refl _, by rw [cv_eq], hI2, Below.refl _ _⟩
  case round =>
    obtain ⟨m, hm, rfl, hI, hbr⟩ := hrel
    have hsr := hbr.size
    have hbw : RowKit.Below w.heap.size w wr := hbw2.trans (hbr.mono hs1)
    rcases m with _ | m
    · rw [List.drop_zero, hvx, Int.toNat_natCast] at hI
      simp only [cv]
      go_wp2_with (go_at_call 151; refine (Tryz.Builder_String_any_k w1.heap.size w1.heap.size (dec n) _ hI (by omega)).mono ?_)
      intros
      rename_i e W1 h2
      obtain ⟨rfl, _, b2, _⟩ := h2
      go_wp2
      go_ret
      exact ⟨rfl, hbw.trans (b2.mono hs1)⟩
    · simp only [cv]
      have bm := dg_getD (by omega) hdx m
      have hcm : wr.cell? ⟨blk, off + m, none⟩ = some (.int .u32 (xs.getD m 0)) := by
        rw [hbw.cell (by exact hblk)]; exact hc0 m (by omega)
      obtain ⟨y, hy⟩ : ∃ y : Nat, xs.getD m 0 = y := ⟨(xs.getD m 0).toNat, by omega⟩
      have hvm := val_drop (B := 1000000000) (l := xs) (k := m) (by omega)
      have hv0 := val_nonneg (dg_drop hdx (m + 1))
      have hvp : 0 < val 1000000000 (xs.drop (m + 1)) := by
        have h1 := val_split 1000000000 (xs.drop (m + 1)) (j - (m + 1)) (by rw [List.length_drop]; omega)
        rw [List.drop_drop, show m + 1 + (j - (m + 1)) = j by omega, hvj] at h1
        have h2 := val_nonneg (dg_take (dg_drop hdx (m + 1)) (j - (m + 1)))
        have h3 : (0 : Int) < ((1000000000 : Nat) : Int) ^ (j - (m + 1)) * g := Int.mul_pos (pow_pos' (by omega) _) (by omega)
        omega
      rw [hy] at bm hcm hvm
      obtain ⟨u, hu⟩ : ∃ u : Nat, val 1000000000 (xs.drop (m + 1)) = u := ⟨(val 1000000000 (xs.drop (m + 1))).toNat, by omega⟩
      rw [hu, Int.toNat_natCast] at hI
      have hdp := dec_pad (a := u) (by omega) 9 y (by omega)
      have hpd := pad_dec 9 y (by omega) (by omega)
      have hnew : (val 1000000000 (xs.drop m)).toNat = u * 10 ^ 9 + y := by rw [hvm, hu]; omega
      rw [hpd.2, ← hnew, ← List.append_assoc] at hdp
      have hdlen : (dec u).length ≤ 1000000000000 := by
        have h1 : u < 10 ^ (9 * (j + 1)) := by
          have h2 := val_lt (dg_drop hdx (m + 1))
          rw [hu, List.length_drop, hj] at h2
          have h3 : (1000000000 : Nat) ^ (j + 1 - (m + 1)) ≤ 1000000000 ^ (j + 1) := Nat.pow_le_pow_right (by omega) (by omega)
          rw [← Int.natCast_pow] at h2
          rw [Nat.pow_mul]
          have h4 : u < 1000000000 ^ (j + 1 - (m + 1)) := by exact_mod_cast h2
          exact Nat.lt_of_lt_of_le h4 h3
        have := (pad_dec (9 * (j + 1)) u (by omega) h1).1
        omega
      have hput := put_k w1.heap.size w1.heap.size (dec u) y 9 wr (glW_below hg hbw hlt) hlt1 (by omega) hI (by omega) (by omega) hdlen
      rw [show (9 : Int).toNat = 9 from rfl, ← hdp] at hput
      clear hdp hpd hnew hdlen hu hvm hvp hv0
      go_wp2_with (go_at_call 148; refine hput.mono ?_)
      intros
      rename_i e W1 h2
      obtain ⟨rfl, hI3, b2⟩ := h2
      go_wp2
      go_roundw
      case rel => exact ⟨m, by omega, by (have h := cv_eq m; show Value.int .i64 ((m : Int) - 1) = Value.int .i64 (cv m); rw [h]), hI3, hbr.trans b2⟩
      case measure => simp [intOf]
theorem digits_zero : Called Tryz.prog 113 [.ints .u32 (mg 1000000000 0)] (.str (dec 0)) := by
  have hz := zero_c 0
  refine called_of_run tbOk 6 ⟨Tryz.func113, rfl, rfl, Nat.le_of_ble_eq_true rfl⟩ ?_
  (conv => whnf)
  refine V.st ?_
  repeat ((try ((with_reducible refine .ext ?_); (conv => whnf))); (with_reducible refine call_intro (r := ?_) ?_ ?_); rotate_left; (focus (first | exact (hz))); (conv => whnf); refine V.st ?_)
  exact Fin.of rfl
theorem digits_c (n : Nat) (hl : (mg 1000000000 n).length ≤ 100000000) : Called Tryz.prog 113 [.ints .u32 (mg 1000000000 n)] (.str (dec n)) := by
  rcases Nat.eq_zero_or_pos n with h0 | h0
  · subst h0; exact digits_zero
  refine called_of_grown Tryz.func113 rfl rfl rfl fun w hp vs ha hd => ?_
  simp only [DenL] at hd
  obtain ⟨v, _, rfl, hv, rfl⟩ := hd
  have hle : hp.Le (pubOf w) := fun b o v h => ha.cells b o v h
  refine (digits_w n h0 hl w ha.blk (glLt ha.blk) v (Den.mono hle hv)).mono fun e w' ⟨he, hw⟩ => ⟨⟨_, he, fun hp => ?_⟩, hw⟩
  · simp only [Den]
    refine ⟨trivial, ?_⟩
    have h2 := mg_lt_pow (B := 1000000000) (n := n) (by omega)
    generalize (mg 1000000000 n).length = l at *
    have h1 : n < 10 ^ (9 * (l + 1)) := by
      rw [Nat.pow_mul]
      exact Nat.lt_of_lt_of_le h2 (Nat.pow_le_pow_right (by omega) (by omega))
    have := (pad_dec (9 * (l + 1)) n (by omega) h1).1
    omega
end Go.Proofs.YtpcpgjcdkgcbpaaGreatDoor
end
section
namespace Go.Proofs.YtpcpgjcdkgcbpaaGreatDoor
open Go Go.V Go.Nb
def raD (q : Rat) : D := .agg [.bool (decide (q.num < 0)), .ints .i64 (mg 10000 q.num.natAbs), .bool false, .ints .i64 (mg 10000 q.den)]
theorem low_num (n d : Int) (hd : d ≠ 0) : (if d < 0 then -n else n) / ((Int.gcd (if d < 0 then -n else n) (if d < 0 then -d else d) : Nat) : Int) = (Rat.divInt n d).num := by
  rw [Rat.num_divInt]
  split
  · rw [Int.neg_gcd, Int.gcd_neg, Int.gcd_comm, Int.sign_eq_neg_one_of_neg (by omega), Int.neg_mul, Int.one_mul]
  · rw [Int.gcd_comm, Int.sign_eq_one_of_pos (by omega), Int.one_mul]
theorem low_den (n d : Int) (hd : d ≠ 0) : (if d < 0 then -d else d) / ((Int.gcd (if d < 0 then -n else n) (if d < 0 then -d else d) : Nat) : Int) = ((Rat.divInt n d).den : Int) := by
  rw [Rat.den_divInt, if_neg hd]
  split
  · rw [Int.neg_gcd, Int.gcd_neg, Int.gcd_comm, Int.natCast_ediv]; congr 1; omega
  · rw [Int.gcd_comm, Int.natCast_ediv]; congr 1; omega
theorem natAbs_ediv_le (n : Int) (g : Nat) : (n / (g : Int)).natAbs ≤ n.natAbs := by
  rcases Int.le_total 0 n with h | h
  · have h1 := Int.ediv_nonneg h (by omega : (0 : Int) ≤ g)
    have h2 := Int.ediv_le_self (a := n) (g : Int) h
    omega
  · rcases Nat.eq_zero_or_pos g with e | e
    · subst e; simp
    · have h1 : n / (g : Int) ≤ 0 := by
        have := Int.ediv_le_ediv (by omega : (0 : Int) < g) h
        simpa using this
      have h2 : n ≤ n / (g : Int) := Int.le_ediv_of_mul_le (by omega) (by
        have := Int.mul_le_mul_of_nonpos_left h (by omega : (1 : Int) ≤ g)
        omega)
      omega
theorem lowest_c (n d : Int) (hn : Sm 80000000 n) (hd : Sm 80000000 d) (hd0 : d ≠ 0) : Called Tryz.prog 153 [plD n, plD d] (raD (Rat.divInt n d)) := by
  have e1 := low_num n d hd0
  have e2 := low_den n d hd0
  refine called_of_run tbOk 6 ⟨Tryz.func153, rfl, rfl, Nat.le_of_ble_eq_true rfl⟩ ?_
  (conv => whnf)
  refine V.st ?_
  refine Cnd.split (CondB.mk (fun hq => ?_) (fun hq => ?_))
  · rw [decide_eq_true_eq] at hq
    simp only [if_pos hq] at e1 e2
    have hN := hn.neg
    have hD := hd.neg
    have ht1 := turn_c n (by unfold Sm at hn; omega)
    have ht2 := turn_c d (by unfold Sm at hd; omega)
    (conv => whnf)
    refine V.st ?_
    refine ⟨(.take 0 (.take 2 (.ev (.cons 1 [2] (.ev (.cons 3 [] (.ev (.cons 4 [] (.ev (.cons 5 [] (.done) (.nil))) (.nil))) (.nil))) (.nil))))), [], ⟨by kernel_rfl, by kernel_rfl, by kernel_rfl, by kernel_rfl⟩, .go (drawD_one ?_)⟩
    (conv => whnf)
    refine V.st ?_
    repeat ((try ((with_reducible refine .ext ?_); (conv => whnf))); (with_reducible refine call_intro (r := ?_) ?_ ?_); rotate_left; (focus (first | exact (ht1) | exact (ht2))); (conv => whnf); refine V.st ?_)
    have hgp : 0 < Int.gcd (-n) (-d) := Int.gcd_pos_of_ne_zero_right _ (by omega)
    have hdv := divisor_c (-n) (-d) hN hD
    have hgD : Sm 80000000 ((Int.gcd (-n) (-d) : Nat) : Int) := hD.le (by rw [Int.natAbs_natCast]; exact Nat.le_of_dvd (by omega) (Nat.gcd_dvd_right ((-n)).natAbs ((-d)).natAbs))
    have hp1 := partsP_c (-n) ((Int.gcd (-n) (-d) : Nat) : Int) hN hgD (by omega)
    have hp2 := partsP_c (-d) ((Int.gcd (-n) (-d) : Nat) : Int) hD hgD (by omega)
    rw [e1] at hp1
    rw [e2] at hp2
    (conv => whnf)
    refine V.st ?_
    repeat ((try ((with_reducible refine .ext ?_); (conv => whnf))); (with_reducible refine call_intro (r := ?_) ?_ ?_); rotate_left; (focus (first | exact (hdv) | exact (hp1) | exact (hp2))); (conv => whnf); refine V.st ?_)
    exact Fin.of (by unfold raD; rw [Int.natAbs_natCast, decide_eq_false (p := ((Rat.divInt n d).den : Int) < 0) (by omega)])
  · rw [decide_eq_false_iff_not] at hq
    simp only [if_neg hq] at e1 e2
    have hN := hn
    have hD := hd
    have hgp : 0 < Int.gcd n d := Int.gcd_pos_of_ne_zero_right _ (by omega)
    have hdv := divisor_c n d hN hD
    have hgD : Sm 80000000 ((Int.gcd n d : Nat) : Int) := hD.le (by rw [Int.natAbs_natCast]; exact Nat.le_of_dvd (by omega) (Nat.gcd_dvd_right (n).natAbs (d).natAbs))
    have hp1 := partsP_c n ((Int.gcd n d : Nat) : Int) hN hgD (by omega)
    have hp2 := partsP_c d ((Int.gcd n d : Nat) : Int) hD hgD (by omega)
    rw [e1] at hp1
    rw [e2] at hp2
    (conv => whnf)
    refine V.st ?_
    repeat ((try ((with_reducible refine .ext ?_); (conv => whnf))); (with_reducible refine call_intro (r := ?_) ?_ ?_); rotate_left; (focus (first | exact (hdv) | exact (hp1) | exact (hp2))); (conv => whnf); refine V.st ?_)
    exact Fin.of (by unfold raD; rw [Int.natAbs_natCast, decide_eq_false (p := ((Rat.divInt n d).den : Int) < 0) (by omega)])
theorem quick_c (n d : Int) (hn : InR .i64 n) (hd : InR .i64 d) (hd0 : d ≠ 0) : Called Tryz.prog 119 [.int .i64 n, .int .i64 d] (raD (Rat.divInt n d)) := by
  have h1 := integer_c n hn
  have h2 := integer_c d hd
  simp only [V.InR, V.lo, V.hi] at hn hd
  have h3 := lowest_c n d ((Sm.lit (k := 5) (by omega)).mono (by omega)) ((Sm.lit (k := 5) (by omega)).mono (by omega)) hd0
  refine called_of_run tbOk 6 ⟨Tryz.func119, rfl, rfl, Nat.le_of_ble_eq_true rfl⟩ ?_
  (conv => whnf)
  refine V.st ?_
  repeat ((try ((with_reducible refine .ext ?_); (conv => whnf))); (with_reducible refine call_intro (r := ?_) ?_ ?_); rotate_left; (focus (first | exact (h1) | exact (h2) | exact (h3))); (conv => whnf); refine V.st ?_)
  exact Fin.of rfl
def okF (q : Rat) : Bool := decide ((dec q.num.natAbs).length ≤ 600) && decide ((dec q.den).length ≤ 600)
def frR (q : Rat) : D := .tup [.agg [.str (cond (okF q) (decZ q.num) []), .str (cond (okF q) (dec q.den) [])], .int .i64 (cond (okF q) 0 6)]
theorem outN_c (n : Nat) (hz : Sm 90000000 n) : Called Tryz.prog 152 [.agg [.bool false, .ints .i64 (mg 10000 n)]] (.tup [.str (if 600 < (dec n).length then [] else dec n), .int .i64 (if 600 < (dec n).length then 6 else 0)]) := by
  have h := out_c n hz
  unfold plD decZ at h
  rw [Int.natAbs_natCast, decide_eq_false (p := (n : Int) < 0) (by omega), if_neg (c := (n : Int) < 0) (by omega)] at h
  exact h
theorem out02_c (q : Rat) (hn : Sm 90000000 q.num) (hd : Sm 90000000 (q.den : Int)) : Called Tryz.prog 118 [raD q] (frR q) := by
  have h1 := out_c q.num hn
  have h2 := outN_c q.den hd
  unfold frR okF
  by_cases g1 : 600 < (dec q.num.natAbs).length <;> by_cases g2 : 600 < (dec q.den).length
  all_goals
    simp only [g1, g2, if_true, if_false] at h1 h2
    simp only [← Nat.not_lt, g1, g2, not_true_eq_false, not_false_eq_true, decide_true, decide_false, Bool.and_self, Bool.and_false, Bool.false_and, Bool.and_true, cond_true, cond_false]
    refine called_of_run tbOk 6 ⟨Tryz.func118, rfl, rfl, Nat.le_of_ble_eq_true rfl⟩ ?_
    (conv => whnf)
    refine V.st ?_
    repeat ((try ((with_reducible refine .ext ?_); (conv => whnf))); (with_reducible refine call_intro (r := ?_) ?_ ?_); rotate_left; (focus (first | exact (h1) | exact (h2))); (conv => whnf); refine V.st ?_)
    exact Fin.of rfl
theorem of02_c (n d : Int) (hn : InR .i64 n) (hd : InR .i64 d) (hd0 : d ≠ 0) : Called Tryz.prog 78 [.int .i64 n, .int .i64 d] (frR (Rat.divInt n d)) := by
  have h1 := quick_c n d hn hd hd0
  simp only [V.InR, V.lo, V.hi] at hn hd
  have hnum : Sm 90000000 (Rat.divInt n d).num := by
    have e1 := low_num n d hd0
    have h := natAbs_ediv_le (if d < 0 then -n else n) (Int.gcd (if d < 0 then -n else n) (if d < 0 then -d else d))
    rw [e1] at h
    exact (Sm.lit (k := 5) (by split at h <;> omega)).mono (by omega)
  have hden : Sm 90000000 ((Rat.divInt n d).den : Int) := by
    have e1 := low_den n d hd0
    have h := natAbs_ediv_le (if d < 0 then -d else d) (Int.gcd (if d < 0 then -n else n) (if d < 0 then -d else d))
    rw [e1] at h
    exact (Sm.lit (k := 5) (by split at h <;> omega)).mono (by omega)
  have h2 := out02_c _ hnum hden
  refine called_of_run tbOk 6 ⟨Tryz.func78, rfl, rfl, Nat.le_of_ble_eq_true rfl⟩ ?_
  (conv => whnf)
  refine V.st ?_
  refine Cnd.no (decide_eq_false hd0) ?_
  (conv => whnf)
  refine V.st ?_
  repeat ((try ((with_reducible refine .ext ?_); (conv => whnf))); (with_reducible refine call_intro (r := ?_) ?_ ?_); rotate_left; (focus (first | exact (h1) | exact (h2))); (conv => whnf); refine V.st ?_)
  exact Fin.of rfl
end Go.Proofs.YtpcpgjcdkgcbpaaGreatDoor
end
section
namespace Go.Proofs.YtpcpgjcdkgcbpaaGreatDoor
open Go Go.V Go.Nb
theorem gcd_c (a b : Nat) (ha : (mg 1000000000 a).length ≤ 90000000) (hb : (mg 1000000000 b).length ≤ 90000000) : Called Tryz.prog 97 [.ints .u32 (mg 1000000000 a), .ints .u32 (mg 1000000000 b)] (.ints .u32 (mg 1000000000 (Nat.gcd a b))) := by
  obtain ⟨g, hg⟩ : ∃ g, g = Nat.gcd a b := ⟨_, rfl⟩
  rw [← hg]
  refine called_of_run tbOk 6 ⟨Tryz.func97, rfl, rfl, Nat.le_of_ble_eq_true rfl⟩ ?_
  (conv => whnf)
  refine V.st ?_
  refine lp_any ((a, b) : Nat × Nat) (fun s => Nat.gcd s.1 s.2 = g ∧ (mg 1000000000 s.1).length ≤ 90000000 ∧ (mg 1000000000 s.2).length ≤ 90000000) (fun s => s.2)
    (fun s => [(0, .ints .u32 (mg 1000000000 s.1)), (1, .ints .u32 (mg 1000000000 s.2))]) (fun _ => []) ?_ ?_ ?_
  · exact V.wk
  · exact ⟨hg.symm, ha, hb⟩
  rintro ⟨x, y⟩ ⟨h1, h2, h3⟩
  dsimp only at h1 h2 h3 ⊢
  have hz := zero_c y
  (conv => whnf)
  refine V.st ?_
  repeat ((try ((with_reducible refine .ext ?_); (conv => whnf))); (with_reducible refine call_intro (r := ?_) ?_ ?_); rotate_left; (focus (first | exact (hz))); (conv => whnf); refine V.st ?_)
  refine Cnd.split (CondB.mk (fun hq => ?_) (fun hq => ?_))
  · have hy : ¬ y = 0 := by simpa using hq
    (conv => whnf)
    refine V.st ?_
    refine Cnd.split (CondB.mk (fun hq2 => ?_) (fun hq2 => ?_))
    · rw [Bool.and_eq_true, decide_eq_true_eq, decide_eq_true_eq] at hq2
      have hx18 : x < 1000000000000000000 := by
        have := mg_lt_pow (B := 1000000000) (n := x) (by omega)
        have h5 : 1000000000 ^ (mg 1000000000 x).length ≤ 1000000000 ^ 2 := Nat.pow_le_pow_right (by omega) (by omega)
        omega
      have hy18 : y < 1000000000000000000 := by
        have := mg_lt_pow (B := 1000000000) (n := y) (by omega)
        have h5 : 1000000000 ^ (mg 1000000000 y).length ≤ 1000000000 ^ 2 := Nat.pow_le_pow_right (by omega) (by omega)
        omega
      have hs1 := small_c x hx18
      have hs2 := small_c y hy18
      (conv => whnf)
      refine V.st ?_
      repeat ((try ((with_reducible refine .ext ?_); (conv => whnf))); (with_reducible refine call_intro (r := ?_) ?_ ?_); rotate_left; (focus (first | exact (hs1) | exact (hs2))); (conv => whnf); refine V.st ?_)
      refine lp_any ((x, y) : Nat × Nat) (fun s => Nat.gcd s.1 s.2 = g ∧ s.1 < 1000000000000000000 ∧ s.2 < 1000000000000000000) (fun s => s.2) (fun s => [(5, .int .u64 s.1), (6, .int .u64 s.2)]) (fun _ => []) ?_ ?_ ?_
      · exact V.wk
      · exact ⟨h1, hx18, hy18⟩
      rintro ⟨p, q⟩ ⟨i1, i2, i3⟩
      dsimp only at i1 i2 i3 ⊢
      (conv => whnf)
      refine V.st ?_
      refine Cnd.split (CondB.mk (fun hq3 => ?_) (fun hq3 => ?_))
      · rw [decide_eq_true_eq] at hq3
        have hqp : 0 < q := by omega
        have em : (p : Int) % (q : Int) = ((p % q : Nat) : Int) := by rw [Int.natCast_emod]
        have hlt := Nat.mod_lt p hqp
        (conv => whnf)
        (try simp only [em])
        repeat ((first | refine V.s1 ?_); (try simp only [em]))
        refine ⟨(.take 0 (.take 1 (.take 2 (.take 3 (.ev (.cons 4 [3, 2] (.ev (.cons 5 [] (.done) (.nil))) (.nil))))))), [], ⟨by kernel_rfl, by kernel_rfl, by kernel_rfl, by kernel_rfl⟩, .go (drawD_one ?_)⟩
        (conv => whnf)
        (try simp only [em])
        repeat ((first | refine V.s1 ?_); (try simp only [em]))
        exact ⟨(q, p % q), ⟨by dsimp only; rw [Nat.gcd_comm, ← Nat.gcd_rec, Nat.gcd_comm]; exact i1, i3, by dsimp only; omega⟩, hlt, V.wk⟩
      · rw [decide_eq_false_iff_not] at hq3
        obtain rfl : q = 0 := by omega
        rw [Nat.gcd_zero_right] at i1
        have hf := fromSmall_c p (by omega)
        (conv => whnf)
        refine V.st ?_
        repeat ((try ((with_reducible refine .ext ?_); (conv => whnf))); (with_reducible refine call_intro (r := ?_) ?_ ?_); rotate_left; (focus (first | exact (hf))); (conv => whnf); refine V.st ?_)
        exact Fin.of (by rw [i1])
    · have hd := divide_c x y (by omega) h2 h3
      have hlt := Nat.mod_lt x (by omega : y > 0)
      have hr := mg_len_mono (B := 1000000000) (by omega) (Nat.le_of_lt hlt)
      (conv => whnf)
      refine V.st ?_
      repeat ((try ((with_reducible refine .ext ?_); (conv => whnf))); (with_reducible refine call_intro (r := ?_) ?_ ?_); rotate_left; (focus (first | exact (hd))); (conv => whnf); refine V.st ?_)
      exact ⟨(y, x % y), ⟨by dsimp only; rw [Nat.gcd_comm, ← Nat.gcd_rec, Nat.gcd_comm]; exact h1, h3, by dsimp only; omega⟩, hlt, V.wk⟩
  · have hy : y = 0 := by simpa using hq
    subst hy
    rw [Nat.gcd_zero_right] at h1
    (conv => whnf)
    refine V.st ?_
    exact Fin.of (by rw [h1])
theorem ftext_c (z : Int) (hz : (mg 1000000000 z.natAbs).length ≤ 90000000) : Called Tryz.prog 112 [itD z] (.str (decZ z)) := by
  have hd := digits_c z.natAbs (by omega)
  have hl : (dec z.natAbs).length ≤ 1000000000000 := by
    have h2 := mg_lt_pow (B := 1000000000) (n := z.natAbs) (by omega)
    generalize (mg 1000000000 z.natAbs).length = l at *
    have h1 : z.natAbs < 10 ^ (9 * (l + 1)) := by
      rw [Nat.pow_mul]
      exact Nat.lt_of_lt_of_le h2 (Nat.pow_le_pow_right (by omega) (by omega))
    have := (pad_dec (9 * (l + 1)) z.natAbs (by omega) h1).1
    omega
  refine called_of_run tbOk 6 ⟨Tryz.func112, rfl, rfl, Nat.le_of_ble_eq_true rfl⟩ ?_
  (conv => whnf)
  refine V.st ?_
  refine Cnd.split (CondB.mk (fun hq => ?_) (fun hq => ?_))
  · rw [decide_eq_true_eq] at hq
    (conv => whnf)
    refine V.st ?_
    repeat ((try ((with_reducible refine .ext ?_); (conv => whnf))); (with_reducible refine call_intro (r := ?_) ?_ ?_); rotate_left; (focus (first | exact (hd))); (conv => whnf); refine V.st ?_)
    exact Fin.of (by unfold decZ; rw [if_pos hq]; rfl)
  · rw [decide_eq_false_iff_not] at hq
    (conv => whnf)
    refine V.st ?_
    repeat ((try ((with_reducible refine .ext ?_); (conv => whnf))); (with_reducible refine call_intro (r := ?_) ?_ ?_); rotate_left; (focus (first | exact (hd))); (conv => whnf); refine V.st ?_)
    exact Fin.of (by unfold decZ; rw [if_neg hq])
def rtD (q : Rat) : D := .agg [.ints .u32 (mg 1000000000 q.num.natAbs), .bool (decide (q.num < 0)), .ints .u32 (mg 1000000000 q.den)]
theorem write_c (q : Rat) (hn : (mg 1000000000 q.num.natAbs).length ≤ 90000000) (hd : (mg 1000000000 q.den).length ≤ 90000000) : Called Tryz.prog 63 [rtD q] (frR q) := by
  have h1 := length_c q.num.natAbs (by omega)
  have h2 := length_c q.den (by omega)
  have h3 := ftext_c q.num hn
  have h4 := digits_c q.den (by omega)
  unfold frR okF
  refine called_of_run tbOk 6 ⟨Tryz.func63, rfl, rfl, Nat.le_of_ble_eq_true rfl⟩ ?_
  (conv => whnf)
  refine V.st ?_
  repeat ((try ((with_reducible refine .ext ?_); (conv => whnf))); (with_reducible refine call_intro (r := ?_) ?_ ?_); rotate_left; (focus (first | exact (h1) | exact (h2))); (conv => whnf); refine V.st ?_)
  refine Cnd.split (CondB.mk (fun hq => ?_) (fun hq => ?_))
  · rw [Bool.or_eq_true, decide_eq_true_eq, decide_eq_true_eq] at hq
    have e : (decide ((dec q.num.natAbs).length ≤ 600) && decide ((dec q.den).length ≤ 600)) = false := by
      rw [Bool.and_eq_false_iff, decide_eq_false_iff_not, decide_eq_false_iff_not]; omega
    rw [e]
    (conv => whnf)
    refine V.st ?_
    exact Fin.of rfl
  · rw [Bool.or_eq_false_iff, decide_eq_false_iff_not, decide_eq_false_iff_not] at hq
    have e : (decide ((dec q.num.natAbs).length ≤ 600) && decide ((dec q.den).length ≤ 600)) = true := by
      rw [Bool.and_eq_true, decide_eq_true_eq, decide_eq_true_eq]; omega
    rw [e]
    (conv => whnf)
    refine V.st ?_
    refine ⟨(.take 0 (.take 1 (.take 3 (.take 4 (.ev (.cons 2 [4, 3] (.ev (.cons 5 [] (.take 6 (.ev (.cons 7 [] (.take 8 (.done)) (.nil)))) (.nil))) (.nil))))))), [], ⟨by kernel_rfl, by kernel_rfl, by kernel_rfl, by kernel_rfl⟩, .go (drawD_one ?_)⟩
    (conv => whnf)
    refine V.st ?_
    repeat ((try ((with_reducible refine .ext ?_); (conv => whnf))); (with_reducible refine call_intro (r := ?_) ?_ ?_); rotate_left; (focus (first | exact (h3) | exact (h4))); (conv => whnf); refine V.st ?_)
    exact Fin.of rfl
end Go.Proofs.YtpcpgjcdkgcbpaaGreatDoor
end
section
namespace Go.Proofs.YtpcpgjcdkgcbpaaGreatDoor
open Go Go.V Go.Nb
theorem divInt_parts (n : Int) (d : Nat) (hd : 0 < d) : (Rat.divInt n d).num.natAbs = n.natAbs / Nat.gcd n.natAbs d ∧ decide ((Rat.divInt n d).num < 0) = decide (n < 0) ∧ (Rat.divInt n d).den = d / Nat.gcd n.natAbs d := by
  have hg : Int.gcd (d : Int) n = Nat.gcd n.natAbs d := by
    rw [Int.gcd_comm]; rfl
  have hgp : 0 < Nat.gcd n.natAbs d := Nat.gcd_pos_of_pos_right _ hd
  have hdv : ((Nat.gcd n.natAbs d : Nat) : Int) ∣ n := Int.ofNat_dvd_left.2 (Nat.gcd_dvd_left _ _)
  rw [Rat.num_divInt, Rat.den_divInt, if_neg (by omega), Int.sign_eq_one_of_pos (by omega), Int.one_mul, hg, Int.natAbs_natCast]
  generalize Nat.gcd n.natAbs d = g at *
  obtain ⟨k, rfl⟩ := hdv
  have e : (g : Int) * k / g = k := Int.mul_ediv_cancel_left _ (by omega)
  rw [e, Int.natAbs_mul, Int.natAbs_natCast, Nat.mul_div_cancel_left _ hgp]
  refine ⟨rfl, ?_, rfl⟩
  apply decide_eq_decide.2
  constructor
  · intro h; exact Int.mul_neg_of_pos_of_neg (by omega) h
  · intro h
    rcases Int.lt_or_le k 0 with h2 | h2
    · exact h2
    · have := Int.mul_nonneg (a := (g : Int)) (by omega) h2; omega
theorem reduced_c (n : Int) (d : Nat) (hd0 : 0 < d) (hn : (mg 1000000000 n.natAbs).length ≤ 90000000) (hd : (mg 1000000000 d).length ≤ 90000000) : Called Tryz.prog 129 [itD n, .ints .u32 (mg 1000000000 d)] (rtD (Rat.divInt n d)) := by
  obtain ⟨p1, p2, p3⟩ := divInt_parts n d hd0
  have hg := gcd_c n.natAbs d hn hd
  have hgp : 0 < Nat.gcd n.natAbs d := Nat.gcd_pos_of_pos_right _ hd0
  have hgl := mg_len_mono (B := 1000000000) (by omega) (Nat.le_of_dvd hd0 (Nat.gcd_dvd_right n.natAbs d))
  have h1 := divide_c n.natAbs (Nat.gcd n.natAbs d) hgp hn (by omega)
  have h2 := divide_c d (Nat.gcd n.natAbs d) hgp hd (by omega)
  have h3 := signed_c (n.natAbs / Nat.gcd n.natAbs d) (decide (n < 0))
  have e : itD (if decide (n < 0) = true then -((n.natAbs / Nat.gcd n.natAbs d : Nat) : Int) else ((n.natAbs / Nat.gcd n.natAbs d : Nat) : Int)) = itD (Rat.divInt n d).num := by
    congr 1
    rw [← p1, ← p2]
    by_cases h : (Rat.divInt n d).num < 0
    · rw [decide_eq_true h, if_pos rfl]; omega
    · rw [decide_eq_false h, if_neg (by simp)]; omega
  rw [e] at h3
  refine called_of_run tbOk 6 ⟨Tryz.func129, rfl, rfl, Nat.le_of_ble_eq_true rfl⟩ ?_
  (conv => whnf)
  refine V.st ?_
  repeat ((try ((with_reducible refine .ext ?_); (conv => whnf))); (with_reducible refine call_intro (r := ?_) ?_ ?_); rotate_left; (focus (first | exact (hg) | exact (h1) | exact (h2) | exact (h3))); (conv => whnf); refine V.st ?_)
  exact Fin.of (by unfold rtD; rw [p3])
theorem wof_c (n : Int) (h : InR .i64 n) : Called Tryz.prog 91 [.int .i64 n] (.str (decZ n)) := by
  have hi := itoa_c n
  refine called_of_run tbOk 6 ⟨Tryz.func91, rfl, rfl, Nat.le_of_ble_eq_true rfl⟩ ?_
  (conv => whnf)
  refine V.st ?_
  repeat ((try ((with_reducible refine .ext ?_); (conv => whnf))); (with_reducible refine call_intro (r := ?_) ?_ ?_); rotate_left; (focus (first | exact (hi))); (conv => whnf); refine V.st ?_)
  exact Fin.of rfl
theorem divInt_signs (n d : Int) (hd : d ≠ 0) : Rat.divInt (if (decide (n < 0) != decide (d < 0)) = true then -(n.natAbs : Int) else (n.natAbs : Int)) (d.natAbs : Nat) = Rat.divInt n d := by
  rw [Rat.divInt_eq_divInt_iff (by omega) hd]
  by_cases h1 : n < 0 <;> by_cases h2 : d < 0
  · simp only [h1, h2, decide_true, bne_self_eq_false, Bool.false_eq_true, if_false]
    rw [show (n.natAbs : Int) = -n by omega, show (d.natAbs : Int) = -d by omega, Int.neg_mul, Int.mul_neg]
  · have e : (decide (n < 0) != decide (d < 0)) = true := by simp [h1, h2]
    rw [if_pos e, show (n.natAbs : Int) = -n by omega, show (d.natAbs : Int) = d by omega, Int.neg_neg]
  · have e : (decide (n < 0) != decide (d < 0)) = true := by simp [h1, h2]
    rw [if_pos e, show (n.natAbs : Int) = n by omega, show (d.natAbs : Int) = -d by omega, Int.neg_mul, Int.mul_neg]
  · have e : ¬ (decide (n < 0) != decide (d < 0)) = true := by simp [h1, h2]
    rw [if_neg e, show (n.natAbs : Int) = n by omega, show (d.natAbs : Int) = d by omega]
theorem okW_len {s : List UInt8} (h : okW s = true) : s.length ≤ 601 ∧ (wval s).natAbs < 10 ^ 600 := by
  unfold okW okD at h
  simp only [Bool.and_eq_true, Bool.not_eq_true', Bool.or_eq_false_iff, decide_eq_false_iff_not, List.all_eq_true] at h
  obtain ⟨⟨h1, h2⟩, h3⟩ := h
  have h4 := rdv_lt h2
  have h5 : ∀ k, (Go.Lib.trimPrefix s [45]).length ≤ k → 10 ^ (Go.Lib.trimPrefix s [45]).length ≤ 10 ^ k := fun k hk => Nat.pow_le_pow_right (by omega) hk
  constructor
  · unfold Go.Lib.trimPrefix at h1
    split at h1
    · rw [List.length_drop] at h1; simp at h1; omega
    · omega
  · have : (wval s).natAbs = rdv (Go.Lib.trimPrefix s [45]) := by unfold wval; split <;> simp
    rw [this]
    exact Nat.lt_of_lt_of_le h4 (h5 600 (by omega))
theorem len9 {n : Nat} (h : n < 10 ^ 600) : (mg 1000000000 n).length ≤ 67 := mg_len_le (by omega) (Nat.lt_of_lt_of_le h (by
  have h1 : ∀ k, (1000000000 : Nat) ^ k = 10 ^ (9 * k) := fun k => by rw [Nat.pow_mul]
  have h2 : ∀ a b : Nat, a ≤ b → (10 : Nat) ^ a ≤ 10 ^ b := fun a b hab => Nat.pow_le_pow_right (by omega) hab
  obtain ⟨m, hm⟩ : ∃ m, m = 9 * 67 := ⟨_, rfl⟩
  rw [h1 67, ← hm]
  exact h2 600 m (by omega)))
theorem make_c (s t : List UInt8) (hs : okW s = true) (ht : okW t = true) (hz : wval t ≠ 0) : Called Tryz.prog 90 [.str s, .str t] (frR (Rat.divInt (wval s) (wval t))) := by
  obtain ⟨ls, vs⟩ := okW_len hs
  obtain ⟨lt, vt⟩ := okW_len ht
  have c1 := wcheck_c s (by omega)
  have c2 := wcheck_c t (by omega)
  rw [hs, if_pos rfl] at c1
  rw [ht, if_pos rfl] at c2
  have n1 := number_c s hs
  have n2 := number_c t ht
  generalize wval s = n at *
  generalize wval t = d at *
  have hz1 := zero_c d.natAbs
  have hs1 := signed_c n.natAbs (decide (n < 0) != decide (d < 0))
  have hnl := len9 vs
  have hdl := len9 vt
  have e1 : (if (decide (n < 0) != decide (d < 0)) = true then -(n.natAbs : Int) else (n.natAbs : Int)).natAbs = n.natAbs := by split <;> omega
  have hr := reduced_c (if (decide (n < 0) != decide (d < 0)) = true then -(n.natAbs : Int) else (n.natAbs : Int)) d.natAbs (by omega) (by rw [e1]; omega) (by omega)
  obtain ⟨p1, p2, p3⟩ := divInt_parts (if (decide (n < 0) != decide (d < 0)) = true then -(n.natAbs : Int) else (n.natAbs : Int)) d.natAbs (by omega)
  rw [divInt_signs n d hz] at hr p1 p2 p3
  rw [e1] at p1 p3
  have hw := write_c (Rat.divInt n d) (by
    rw [p1]
    have := mg_len_mono (B := 1000000000) (by omega) (Nat.div_le_self n.natAbs (n.natAbs.gcd d.natAbs))
    omega) (by
    rw [p3]
    have := mg_len_mono (B := 1000000000) (by omega) (Nat.div_le_self d.natAbs (n.natAbs.gcd d.natAbs))
    omega)
  refine called_of_run tbOk 6 ⟨Tryz.func90, rfl, rfl, Nat.le_of_ble_eq_true rfl⟩ ?_
  (conv => whnf)
  refine V.st ?_
  repeat ((try ((with_reducible refine .ext ?_); (conv => whnf))); (with_reducible refine call_intro (r := ?_) ?_ ?_); rotate_left; (focus (first | exact (c1) | exact (c2) | exact (n1) | exact (n2) | exact (hz1))); (conv => whnf); refine V.st ?_)
  refine Cnd.no (decide_eq_false (by omega)) ?_
  (conv => whnf)
  refine V.st ?_
  refine ⟨(.take 0 (.take 1 (.take 2 (.take 3 (.take 4 (.take 5 (.take 6 (.take 8 (.take 9 (.ev (.cons 7 [9, 8] (.ev (.cons 10 [] (.ev (.cons 11 [] (.take 12 (.take 13 (.ev (.cons 14 [] (.take 15 (.done)) (.nil))))) (.nil))) (.nil))) (.nil)))))))))))), [], ⟨by kernel_rfl, by kernel_rfl, by kernel_rfl, by kernel_rfl⟩, .go (drawD_one ?_)⟩
  (conv => whnf)
  refine V.st ?_
  repeat ((try ((with_reducible refine .ext ?_); (conv => whnf))); (with_reducible refine call_intro (r := ?_) ?_ ?_); rotate_left; (focus (first | exact (hs1) | exact (hr) | exact (hw))); (conv => whnf); refine V.st ?_)
  exact Fin.of rfl
theorem of_c (n d : Int) (hn : InR .i64 n) (hd : InR .i64 d) (hd0 : d ≠ 0) : Called Tryz.prog 48 [.int .i64 n, .int .i64 d] (frR (Rat.divInt n d)) := by
  have h1 := wof_c n hn
  have h2 := wof_c d hd
  simp only [V.InR, V.lo, V.hi] at hn hd
  have o1 := okW_decZ n (by have := dec_len n.natAbs 19 (by omega) (by omega); omega)
  have o2 := okW_decZ d (by have := dec_len d.natAbs 19 (by omega) (by omega); omega)
  have h3 := make_c (decZ n) (decZ d) o1 o2 (by rw [wval_decZ]; exact hd0)
  rw [wval_decZ, wval_decZ] at h3
  refine called_of_run tbOk 6 ⟨Tryz.func48, rfl, rfl, Nat.le_of_ble_eq_true rfl⟩ ?_
  (conv => whnf)
  refine V.st ?_
  repeat ((try ((with_reducible refine .ext ?_); (conv => whnf))); (with_reducible refine call_intro (r := ?_) ?_ ?_); rotate_left; (focus (first | exact (h1) | exact (h2) | exact (h3))); (conv => whnf); refine V.st ?_)
  exact Fin.of rfl
end Go.Proofs.YtpcpgjcdkgcbpaaGreatDoor
end
section
namespace Go.Proofs.YtpcpgjcdkgcbpaaGreatDoor
open Go Go.V Go.Nb
def S9 (k : Nat) (z : Int) : Prop := (mg 1000000000 z.natAbs).length ≤ k
theorem S9.mono {k l : Nat} {z : Int} (h : S9 k z) (hl : k ≤ l) : S9 l z := Nat.le_trans h hl
theorem S9.neg {k : Nat} {z : Int} (h : S9 k z) : S9 k (-z) := by unfold S9 at *; rw [Int.natAbs_neg]; exact h
theorem S9.le {k : Nat} {y z : Int} (h : S9 k z) (hy : y.natAbs ≤ z.natAbs) : S9 k y := Nat.le_trans (mg_len_mono (by omega) hy) h
theorem S9.mul {k l : Nat} {y z : Int} (h : S9 k y) (h2 : S9 l z) : S9 (k + l) (y * z) := by
  unfold S9 at *
  rw [Int.natAbs_mul]
  have := mg_len_mul (B := 1000000000) (by omega) y.natAbs z.natAbs
  omega
theorem S9.add {k : Nat} {y z : Int} (h : S9 k y) (h2 : S9 k z) : S9 (k + 1) (y + z) := by
  unfold S9 at *
  have h3 := mg_len_add (B := 1000000000) (by omega) y.natAbs z.natAbs
  have h4 := mg_len_mono (B := 1000000000) (by omega) (Int.natAbs_add_le y z)
  omega
theorem S9.lit {k : Nat} {z : Int} (h : z.natAbs < 1000000000 ^ k) : S9 k z := mg_len_le (by omega) h
theorem S9.nat {k : Nat} {n : Nat} : S9 k (n : Int) ↔ (mg 1000000000 n).length ≤ k := by unfold S9; rw [Int.natAbs_natCast]
theorem sum_c9 (x y : Int) (hx : S9 90000000 x) (hy : S9 90000000 y) : Called Tryz.prog 100 [itD x, itD y] (itD (x + y)) := by
  unfold S9 at hx hy
  have hl := mg_len_add (B := 1000000000) (by omega) x.natAbs y.natAbs
  have hs := plus_m x.natAbs y.natAbs (by omega) (by omega)
  have ho := compare_c x.natAbs y.natAbs (by omega) (by omega)
  rw [show itD x = .agg [.ints .u32 (mg 1000000000 x.natAbs), .bool (decide (x < 0))] from rfl, show itD y = .agg [.ints .u32 (mg 1000000000 y.natAbs), .bool (decide (y < 0))] from rfl]
  refine called_of_run tbOk 6 ⟨Tryz.func100, rfl, rfl, Nat.le_of_ble_eq_true rfl⟩ ?_
  (conv => whnf)
  refine V.st ?_
  refine Cnd.split (CondB.mk (fun hq => ?_) (fun hq => ?_))
  · rw [beq_iff_eq, decide_eq_decide] at hq
    have hm := signed_c (x.natAbs + y.natAbs) (decide (x < 0))
    have e : (if decide (x < 0) = true then -((x.natAbs + y.natAbs : Nat) : Int) else ((x.natAbs + y.natAbs : Nat) : Int)) = x + y := by
      by_cases h : x < 0
      · simp [h]; omega
      · simp [h]; omega
    rw [e] at hm
    (conv => whnf)
    refine V.st ?_
    refine ⟨(.take 0 (.take 1 (.take 2 (.take 3 (.take 5 (.take 6 (.ev (.cons 4 [6, 5] (.ev (.cons 7 [] (.ev (.cons 8 [] (.done) (.nil))) (.nil))) (.nil))))))))), [], ⟨by kernel_rfl, by kernel_rfl, by kernel_rfl, by kernel_rfl⟩, .go (drawD_one ?_)⟩
    (conv => whnf)
    refine V.st ?_
    repeat ((try ((with_reducible refine .ext ?_); (conv => whnf))); (with_reducible refine call_intro (r := ?_) ?_ ?_); rotate_left; (focus (first | exact (hs) | exact (hm))); (conv => whnf); refine V.st ?_)
    exact Fin.of rfl
  · have hq' : ¬ (x < 0 ↔ y < 0) := fun h => by rw [beq_eq_false_iff_ne] at hq; exact hq (decide_eq_decide.2 h)
    (conv => whnf)
    refine V.st ?_
    repeat ((try ((with_reducible refine .ext ?_); (conv => whnf))); (with_reducible refine call_intro (r := ?_) ?_ ?_); rotate_left; (focus (first | exact (ho))); (conv => whnf); refine V.st ?_)
    refine Cnd.split (CondB.mk (fun hq2 => ?_) (fun hq2 => ?_))
    · rw [decide_eq_true_eq] at hq2
      have hq3 := Int.neg_of_sign_eq_neg_one (a := ((x.natAbs : Int) - y.natAbs)) (by have := Int.sign_trichotomy ((x.natAbs : Int) - y.natAbs); omega)
      have hd := minus_m y.natAbs x.natAbs (by omega) (by omega)
      have hm := signed_c (y.natAbs - x.natAbs) (decide (y < 0))
      have e : (if decide (y < 0) = true then -((y.natAbs - x.natAbs : Nat) : Int) else ((y.natAbs - x.natAbs : Nat) : Int)) = x + y := by
        by_cases h : y < 0
        · simp [h]; omega
        · simp [h]; omega
      rw [e] at hm
      (conv => whnf)
      refine V.st ?_
      refine ⟨(.take 0 (.take 1 (.take 2 (.take 3 (.take 5 (.take 6 (.ev (.cons 4 [6, 5] (.ev (.cons 7 [] (.ev (.cons 8 [] (.done) (.nil))) (.nil))) (.nil))))))))), [], ⟨by kernel_rfl, by kernel_rfl, by kernel_rfl, by kernel_rfl⟩, .go (drawD_one ?_)⟩
      (conv => whnf)
      refine V.st ?_
      repeat ((try ((with_reducible refine .ext ?_); (conv => whnf))); (with_reducible refine call_intro (r := ?_) ?_ ?_); rotate_left; (focus (first | exact (hd) | exact (hm))); (conv => whnf); refine V.st ?_)
      exact Fin.of rfl
    · rw [decide_eq_false_iff_not] at hq2
      have hq3 : ¬ ((x.natAbs : Int) - y.natAbs) < 0 := fun h => hq2 (by rw [Int.sign_eq_neg_one_of_neg h]; decide)
      have hd := minus_m x.natAbs y.natAbs (by omega) (by omega)
      have hm := signed_c (x.natAbs - y.natAbs) (decide (x < 0))
      have e : (if decide (x < 0) = true then -((x.natAbs - y.natAbs : Nat) : Int) else ((x.natAbs - y.natAbs : Nat) : Int)) = x + y := by
        by_cases h : x < 0
        · simp [h]; omega
        · simp [h]; omega
      rw [e] at hm
      (conv => whnf)
      refine V.st ?_
      refine ⟨(.take 0 (.take 1 (.take 2 (.take 3 (.take 5 (.take 6 (.ev (.cons 4 [6, 5] (.ev (.cons 7 [] (.ev (.cons 8 [] (.done) (.nil))) (.nil))) (.nil))))))))), [], ⟨by kernel_rfl, by kernel_rfl, by kernel_rfl, by kernel_rfl⟩, .go (drawD_one ?_)⟩
      (conv => whnf)
      refine V.st ?_
      repeat ((try ((with_reducible refine .ext ?_); (conv => whnf))); (with_reducible refine call_intro (r := ?_) ?_ ?_); rotate_left; (focus (first | exact (hd) | exact (hm))); (conv => whnf); refine V.st ?_)
      exact Fin.of rfl
theorem scaled_c (x : Int) (d : Nat) (hx : S9 90000000 x) (hd : (mg 1000000000 d).length ≤ 90000000) : Called Tryz.prog 99 [itD x, .ints .u32 (mg 1000000000 d)] (itD (x * d)) := by
  unfold S9 at hx
  have ht := times_c x.natAbs d (by omega) (by omega)
  have hm := signed_c (x.natAbs * d) (decide (x < 0))
  have e : (if decide (x < 0) = true then -((x.natAbs * d : Nat) : Int) else ((x.natAbs * d : Nat) : Int)) = x * d := by
    rw [Int.natCast_mul]
    by_cases h : x < 0
    · have e2 : (x.natAbs : Int) = -x := by omega
      rw [e2, decide_eq_true h, if_pos rfl, Int.neg_mul, Int.neg_neg]
    · have e2 : (x.natAbs : Int) = x := by omega
      rw [e2]; simp [h]
  rw [e] at hm
  refine called_of_run tbOk 6 ⟨Tryz.func99, rfl, rfl, Nat.le_of_ble_eq_true rfl⟩ ?_
  (conv => whnf)
  refine V.st ?_
  refine ⟨(.take 0 (.take 1 (.take 2 (.take 4 (.take 5 (.ev (.cons 3 [5, 4] (.ev (.cons 6 [] (.ev (.cons 7 [] (.done) (.nil))) (.nil))) (.nil)))))))), [], ⟨by kernel_rfl, by kernel_rfl, by kernel_rfl, by kernel_rfl⟩, .go (drawD_one ?_)⟩
  (conv => whnf)
  refine V.st ?_
  repeat ((try ((with_reducible refine .ext ?_); (conv => whnf))); (with_reducible refine call_intro (r := ?_) ?_ ?_); rotate_left; (focus (first | exact (ht) | exact (hm))); (conv => whnf); refine V.st ?_)
  exact Fin.of rfl
theorem opposite_c (x : Int) : Called Tryz.prog 103 [itD x] (itD (-x)) := by
  have hm := signed_c x.natAbs (!decide (x < 0))
  have e : (if (!decide (x < 0)) = true then -(x.natAbs : Int) else (x.natAbs : Int)) = -x := by
    by_cases h : x < 0
    · simp [h]; omega
    · simp [h]; omega
  rw [e] at hm
  refine called_of_run tbOk 6 ⟨Tryz.func103, rfl, rfl, Nat.le_of_ble_eq_true rfl⟩ ?_
  (conv => whnf)
  refine V.st ?_
  repeat ((try ((with_reducible refine .ext ?_); (conv => whnf))); (with_reducible refine call_intro (r := ?_) ?_ ?_); rotate_left; (focus (first | exact (hm))); (conv => whnf); refine V.st ?_)
  exact Fin.of rfl
theorem sign_c (x : Int) : Called Tryz.prog 104 [itD x] (.int .i64 x.sign) := by
  have hz := zero_c x.natAbs
  refine called_of_run tbOk 6 ⟨Tryz.func104, rfl, rfl, Nat.le_of_ble_eq_true rfl⟩ ?_
  (conv => whnf)
  refine V.st ?_
  repeat ((try ((with_reducible refine .ext ?_); (conv => whnf))); (with_reducible refine call_intro (r := ?_) ?_ ?_); rotate_left; (focus (first | exact (hz))); (conv => whnf); refine V.st ?_)
  refine Cnd.split (CondB.mk (fun hq => ?_) (fun hq => ?_))
  · rw [decide_eq_true_eq] at hq
    (conv => whnf)
    refine V.st ?_
    exact Fin.of (by rw [show x = 0 by omega]; rfl)
  · rw [decide_eq_false_iff_not] at hq
    (conv => whnf)
    refine V.st ?_
    refine Cnd.split (CondB.mk (fun hq2 => ?_) (fun hq2 => ?_))
    · rw [decide_eq_true_eq] at hq2
      (conv => whnf)
      refine V.st ?_
      exact Fin.of (by rw [Int.sign_eq_neg_one_of_neg hq2])
    · rw [decide_eq_false_iff_not] at hq2
      (conv => whnf)
      refine V.st ?_
      exact Fin.of (by rw [Int.sign_eq_one_of_pos (by omega)])
theorem order_r (x y : Rat) (hx : S9 40000000 x.num) (hy : S9 40000000 y.num) (hxd : (mg 1000000000 x.den).length ≤ 40000000) (hyd : (mg 1000000000 y.den).length ≤ 40000000) : Called Tryz.prog 55 [rtD x, rtD y] (.int .i64 (ordQ x y)) := by
  have s1 := scaled_c x.num y.den (hx.mono (by omega)) (by omega)
  have s2 := scaled_c y.num x.den (hy.mono (by omega)) (by omega)
  have s3 := opposite_c (y.num * x.den)
  have z1 : S9 80000000 (x.num * y.den) := hx.mul (S9.nat.2 hyd)
  have z2 : S9 80000000 (y.num * x.den) := hy.mul (S9.nat.2 hxd)
  have s4 := sum_c9 (x.num * y.den) (-(y.num * x.den)) (z1.mono (by omega)) (z2.neg.mono (by omega))
  have s5 := sign_c (x.num * y.den + -(y.num * x.den))
  rw [order_parts] at s5
  refine called_of_run tbOk 6 ⟨Tryz.func55, rfl, rfl, Nat.le_of_ble_eq_true rfl⟩ ?_
  (conv => whnf)
  refine V.st ?_
  refine ⟨(.take 0 (.take 1 (.take 2 (.take 3 (.take 5 (.take 6 (.take 7 (.take 8 (.ev (.cons 4 [8, 7, 6, 5] (.ev (.cons 9 [] (.ev (.cons 10 [] (.ev (.cons 11 [] (.ev (.cons 12 [] (.take 13 (.done)) (.nil))) (.nil))) (.nil))) (.nil))) (.nil))))))))))), [], ⟨by kernel_rfl, by kernel_rfl, by kernel_rfl, by kernel_rfl⟩, .go (drawD_one ?_)⟩
  (conv => whnf)
  refine V.st ?_
  repeat ((try ((with_reducible refine .ext ?_); (conv => whnf))); (with_reducible refine call_intro (r := ?_) ?_ ?_); rotate_left; (focus (first | exact (s1) | exact (s2) | exact (s3) | exact (s4) | exact (s5))); (conv => whnf); refine V.st ?_)
  exact Fin.of rfl
theorem floor_neg (x : Int) (d : Nat) (hx : x < 0) (hd : 0 < d) : x / (d : Int) = if x.natAbs % d = 0 then -((x.natAbs / d : Nat) : Int) else -((x.natAbs / d + 1 : Nat) : Int) := by
  have h1 := Nat.div_add_mod x.natAbs d
  have h2 := Nat.mod_lt x.natAbs hd
  have e : x = -(x.natAbs : Int) := by omega
  generalize x.natAbs = n at *
  generalize hq : n / d = q at *
  generalize hr : n % d = r at *
  subst e
  have h3 : ((d * q + r : Nat) : Int) = (n : Int) := by rw [h1]
  rw [Int.natCast_add, Int.natCast_mul] at h3
  split
  · rename_i h
    subst h
    rw [← h3, Int.natCast_zero, Int.add_zero, ← Int.mul_neg, Int.mul_ediv_cancel_left _ (by omega)]
  · rw [Int.natCast_add, Int.natCast_one]
    refine (Int.ediv_eq_iff_of_pos (by omega)).2 ⟨?_, ?_⟩
    · rw [← h3, Int.neg_mul, Int.add_mul, Int.mul_comm (q : Int)]; omega
    · rw [← h3, Int.neg_mul, Int.add_mul, Int.mul_comm (q : Int)]; omega
end Go.Proofs.YtpcpgjcdkgcbpaaGreatDoor
end
section
namespace Go.Proofs.YtpcpgjcdkgcbpaaGreatDoor
open Go Go.V Go.Nb
theorem divInt_cop (n : Int) (d : Nat) (hd : 0 < d) (h : Nat.Coprime n.natAbs d) : (Rat.divInt n d).num = n ∧ (Rat.divInt n d).den = d := by
  have h1 : Int.gcd (d : Int) n = 1 := by rw [Int.gcd_comm]; exact h
  rw [Rat.num_divInt, Rat.den_divInt, if_neg (by omega), Int.sign_eq_one_of_pos (by omega), Int.one_mul, h1]
  simp
theorem cop_dvd {a b c : Nat} (h : Nat.Coprime a b) (hc : c ∣ a) : Nat.Coprime c b := Nat.Coprime.coprime_dvd_left hc h
theorem cop_dvd' {a b c : Nat} (h : Nat.Coprime a b) (hc : c ∣ b) : Nat.Coprime a c := Nat.Coprime.coprime_dvd_right hc h
theorem sum_cop {xn yn : Int} {R L xb : Nat} (hx : Nat.Coprime xn.natAbs xb) (hR : R ∣ xb) (hRL : Nat.Coprime R L) : Nat.Coprime (xn * L + yn * R).natAbs R := by
  have h1 : Nat.gcd (xn * L + yn * R).natAbs R ∣ R := Nat.gcd_dvd_right _ _
  have h2 : Nat.gcd (xn * L + yn * R).natAbs R ∣ (xn * L + yn * R).natAbs := Nat.gcd_dvd_left _ _
  obtain ⟨d, hd⟩ : ∃ d, d = Nat.gcd (xn * L + yn * R).natAbs R := ⟨_, rfl⟩
  rw [← hd] at h1 h2
  have h3 : (d : Int) ∣ xn * L + yn * R := Int.ofNat_dvd_left.2 h2
  have h4 : (d : Int) ∣ yn * R := Int.dvd_trans (Int.ofNat_dvd.2 h1) (Int.dvd_mul_left _ _)
  have h5 : (d : Int) ∣ xn * L := by
    have := Int.dvd_sub h3 h4
    rwa [Int.add_sub_cancel] at this
  have h6 : d ∣ xn.natAbs * L := by
    have := Int.ofNat_dvd_left.1 h5
    rwa [Int.natAbs_mul, Int.natAbs_natCast] at this
  have h7 : Nat.Coprime d L := cop_dvd hRL h1
  have h8 : d ∣ xn.natAbs := Nat.Coprime.dvd_of_dvd_mul_right h7 h6
  have h9 : d ∣ Nat.gcd xn.natAbs xb := Nat.dvd_gcd h8 (Nat.dvd_trans h1 hR)
  rw [hx.gcd_eq_one] at h9
  show Nat.gcd _ _ = 1
  rw [← hd]
  exact Nat.dvd_one.1 h9
theorem add_parts (x y : Rat) :
    let g := Nat.gcd x.den y.den; let L := y.den / g; let R := x.den / g; let top := x.num * L + y.num * R; let h := Nat.gcd top.natAbs g
    (x + y).num = top / h ∧ (x + y).den = R * (y.den / h) := by
  intro g L R top h
  have hg : 0 < g := Nat.gcd_pos_of_pos_left _ x.den_pos
  have ex : x.den = R * g := (Nat.div_mul_cancel (Nat.gcd_dvd_left _ _)).symm
  have ey : y.den = L * g := (Nat.div_mul_cancel (Nat.gcd_dvd_right _ _)).symm
  have hRL : Nat.Coprime R L := Nat.coprime_div_gcd_div_gcd hg
  have c1 : Nat.Coprime top.natAbs R := sum_cop x.reduced (by rw [ex]; exact Nat.dvd_mul_right _ _) hRL
  have c2 : Nat.Coprime top.natAbs L := by
    have := sum_cop (xn := y.num) (yn := x.num) (R := L) (L := R) y.reduced (by rw [ey]; exact Nat.dvd_mul_right _ _) hRL.symm
    rwa [Int.add_comm] at this
  have hh : 0 < h := Nat.gcd_pos_of_pos_right _ hg
  have hht : h ∣ top.natAbs := Nat.gcd_dvd_left _ _
  have hhg : h ∣ g := Nat.gcd_dvd_right _ _
  have hT : ((h : Nat) : Int) ∣ top := Int.ofNat_dvd_left.2 hht
  obtain ⟨t, ht⟩ := hT
  obtain ⟨q, hq⟩ := hhg
  have hyq : y.den / h = L * q := by
    rw [ey, hq, Nat.mul_comm h q, ← Nat.mul_assoc, Nat.mul_div_cancel _ hh]
  have htn : top.natAbs = h * t.natAbs := by rw [ht, Int.natAbs_mul, Int.natAbs_natCast]
  have hcq : Nat.Coprime t.natAbs q := by
    have h1 : Nat.Coprime (top.natAbs / h) (g / h) := Nat.coprime_div_gcd_div_gcd hh
    rwa [htn, hq, Nat.mul_div_cancel_left _ hh, Nat.mul_div_cancel_left _ hh] at h1
  have htd : t.natAbs ∣ top.natAbs := by rw [htn]; exact Nat.dvd_mul_left _ _
  have hcop : Nat.Coprime t.natAbs (R * (y.den / h)) := by
    rw [hyq]
    exact Nat.Coprime.mul_right (cop_dvd c1 htd) (Nat.Coprime.mul_right (cop_dvd c2 htd) hcq)
  have hqp : 0 < q := Nat.pos_of_ne_zero fun e => by rw [e] at hq; omega
  have hLp : 0 < L := Nat.pos_of_ne_zero fun e => by have := y.den_pos; rw [ey, e] at this; omega
  have hRp : 0 < R := Nat.pos_of_ne_zero fun e => by have := x.den_pos; rw [ex, e] at this; omega
  have hsum : x + y = Rat.divInt t ((R * (y.den / h) : Nat) : Int) := by
    conv => lhs; rw [← Rat.num_divInt_den x, ← Rat.num_divInt_den y]
    rw [Rat.divInt_add_divInt _ _ (by have := x.den_pos; omega) (by have := y.den_pos; omega)]
    have hyp := y.den_pos
    have hxp := x.den_pos
    rw [Rat.divInt_eq_divInt_iff (by have := Nat.mul_pos hxp hyp; rw [← Int.natCast_mul]; omega) (by have : 0 < R * (y.den / h) := by { rw [hyq]; exact Nat.mul_pos hRp (Nat.mul_pos hLp hqp) }; omega)]
    rw [hyq, ex, ey, hq]
    have e1 : x.num * ((L * (h * q) : Nat) : Int) + y.num * ((R * (h * q) : Nat) : Int) = (h * q : Nat) * top := by
      show _ = ((h * q : Nat) : Int) * (x.num * (L : Int) + y.num * (R : Int))
      simp only [Int.natCast_mul, Int.mul_add]
      congr 1 <;> ac_rfl
    rw [e1, ht]
    simp only [Int.natCast_mul]
    ac_rfl
  have hp : 0 < R * (y.den / h) := by rw [hyq]; exact Nat.mul_pos hRp (Nat.mul_pos hLp hqp)
  obtain ⟨p1, p2⟩ := divInt_cop t (R * (y.den / h)) hp hcop
  rw [hsum, p1, p2, ht, Int.mul_ediv_cancel_left _ (by omega)]
  exact ⟨rfl, rfl⟩
theorem mul_parts (x y : Rat) :
    let g := Nat.gcd x.num.natAbs y.den; let h := Nat.gcd y.num.natAbs x.den
    (x * y).num.natAbs = (x.num.natAbs / g) * (y.num.natAbs / h) ∧ (x * y).den = (x.den / h) * (y.den / g) := by
  intro g h
  have hg : 0 < g := Nat.gcd_pos_of_pos_right _ y.den_pos
  have hh : 0 < h := Nat.gcd_pos_of_pos_right _ x.den_pos
  obtain ⟨a, ha⟩ : g ∣ x.num.natAbs := Nat.gcd_dvd_left _ _
  obtain ⟨b, hb⟩ : g ∣ y.den := Nat.gcd_dvd_right _ _
  obtain ⟨c, hc⟩ : h ∣ y.num.natAbs := Nat.gcd_dvd_left _ _
  obtain ⟨d, hd⟩ : h ∣ x.den := Nat.gcd_dvd_right _ _
  have k1 : x.num.natAbs / g = a := by rw [ha, Nat.mul_div_cancel_left _ hg]
  have k2 : y.den / g = b := by rw [hb, Nat.mul_div_cancel_left _ hg]
  have k3 : y.num.natAbs / h = c := by rw [hc, Nat.mul_div_cancel_left _ hh]
  have k4 : x.den / h = d := by rw [hd, Nat.mul_div_cancel_left _ hh]
  have c1 : Nat.Coprime a b := by
    have : Nat.Coprime (x.num.natAbs / g) (y.den / g) := Nat.coprime_div_gcd_div_gcd hg
    rwa [k1, k2] at this
  have c2 : Nat.Coprime c d := by
    have : Nat.Coprime (y.num.natAbs / h) (x.den / h) := Nat.coprime_div_gcd_div_gcd hh
    rwa [k3, k4] at this
  have c3 : Nat.Coprime a d := cop_dvd (cop_dvd' x.reduced (by rw [hd]; exact Nat.dvd_mul_left _ _)) (by rw [ha]; exact Nat.dvd_mul_left _ _)
  have c4 : Nat.Coprime c b := cop_dvd (cop_dvd' y.reduced (by rw [hb]; exact Nat.dvd_mul_left _ _)) (by rw [hc]; exact Nat.dvd_mul_left _ _)
  have hcop : Nat.Coprime (a * c) (d * b) := Nat.Coprime.mul_right (Nat.Coprime.mul_left c3 c2) (Nat.Coprime.mul_left c1 c4)
  obtain ⟨u, hu⟩ : ((g : Nat) : Int) ∣ x.num := Int.ofNat_dvd_left.2 ⟨a, ha⟩
  obtain ⟨v, hv⟩ : ((h : Nat) : Int) ∣ y.num := Int.ofNat_dvd_left.2 ⟨c, hc⟩
  have hua : u.natAbs = a := by
    have := ha; rw [hu, Int.natAbs_mul, Int.natAbs_natCast] at this
    exact Nat.eq_of_mul_eq_mul_left hg this
  have hvc : v.natAbs = c := by
    have := hc; rw [hv, Int.natAbs_mul, Int.natAbs_natCast] at this
    exact Nat.eq_of_mul_eq_mul_left hh this
  have hbp : 0 < b := Nat.pos_of_ne_zero fun e => by have := y.den_pos; rw [hb, e] at this; omega
  have hdp : 0 < d := Nat.pos_of_ne_zero fun e => by have := x.den_pos; rw [hd, e] at this; omega
  have hp : 0 < d * b := Nat.mul_pos hdp hbp
  have hprod : x * y = Rat.divInt (u * v) ((d * b : Nat) : Int) := by
    conv => lhs; rw [← Rat.num_divInt_den x, ← Rat.num_divInt_den y]
    rw [Rat.divInt_mul_divInt]
    have hyp := y.den_pos
    have hxp := x.den_pos
    rw [Rat.divInt_eq_divInt_iff (by have := Nat.mul_pos hxp hyp; rw [← Int.natCast_mul]; omega) (by omega), hb, hd]
    conv => lhs; rw [hu, hv]
    simp only [Int.natCast_mul]
    ac_rfl
  obtain ⟨p1, p2⟩ := divInt_cop (u * v) (d * b) hp (by rw [Int.natAbs_mul, hua, hvc]; exact hcop)
  rw [hprod, p1, p2, Int.natAbs_mul, hua, hvc, k1, k2, k3, k4]
  exact ⟨rfl, rfl⟩
theorem mul_sign (x y : Rat) : decide ((x * y).num < 0) = ((decide (x.num < 0) != decide (y.num < 0)) && !decide ((x * y).num = 0)) := by
  have hg : 0 < Nat.gcd (x.num * y.num).natAbs (x.den * y.den) := Nat.gcd_pos_of_pos_right _ (Nat.mul_pos x.den_pos y.den_pos)
  obtain ⟨t, ht⟩ : ((Nat.gcd (x.num * y.num).natAbs (x.den * y.den) : Nat) : Int) ∣ x.num * y.num := Int.ofNat_dvd_left.2 (Nat.gcd_dvd_left _ _)
  have key : (x * y).num = t := by
    rw [Rat.mul_def, Rat.normalize_eq]
    show x.num * y.num / ((Nat.gcd (x.num * y.num).natAbs (x.den * y.den) : Nat) : Int) = t
    conv => lhs; lhs; rw [ht]
    exact Int.mul_ediv_cancel_left _ (by omega)
  rw [key]
  generalize Nat.gcd (x.num * y.num).natAbs (x.den * y.den) = g at *
  have hs : (t < 0 ↔ x.num * y.num < 0) ∧ (t = 0 ↔ x.num * y.num = 0) := by
    rw [ht]
    constructor
    · constructor
      · intro h; exact Int.mul_neg_of_pos_of_neg (by omega) h
      · intro h
        rcases Int.lt_or_le t 0 with h2 | h2
        · exact h2
        · have := Int.mul_nonneg (a := (g : Int)) (by omega) h2; omega
    · constructor
      · intro h; rw [h, Int.mul_zero]
      · intro h; rcases Int.mul_eq_zero.1 h with h2 | h2 <;> omega
  by_cases h1 : x.num < 0 <;> by_cases h2 : y.num < 0 <;> by_cases h3 : t = 0
  all_goals
    have h4 := hs.1
    have h5 := hs.2
    simp only [h1, h2, h3, decide_true, decide_false, bne_self_eq_false, Bool.false_and, Bool.not_true, Bool.and_false, Bool.not_false, Bool.and_true]
  · rfl
  · rw [decide_eq_false_iff_not, h4]
    have := Int.mul_pos_of_neg_of_neg h1 h2; omega
  · simp
  · have h6 : x.num * y.num ≠ 0 := fun e => h3 (h5.2 e)
    have h7 : x.num * y.num ≤ 0 := Int.mul_nonpos_of_nonpos_of_nonneg (by omega) (by omega)
    simp only [h4]
    simp; omega
  · simp
  · have h6 : x.num * y.num ≠ 0 := fun e => h3 (h5.2 e)
    have h7 : x.num * y.num ≤ 0 := Int.mul_nonpos_of_nonneg_of_nonpos (by omega) (by omega)
    simp only [h4]
    simp; omega
  · rfl
  · rw [decide_eq_false_iff_not, h4]
    have := Int.mul_nonneg (a := x.num) (b := y.num) (by omega) (by omega); omega
end Go.Proofs.YtpcpgjcdkgcbpaaGreatDoor
end
section
namespace Go.Proofs.YtpcpgjcdkgcbpaaGreatDoor
open Go Go.V Go.Nb
def Q9 (k : Nat) (q : Rat) : Prop := S9 k q.num ∧ (mg 1000000000 q.den).length ≤ k
theorem Q9.mono {k l : Nat} {q : Rat} (h : Q9 k q) (hl : k ≤ l) : Q9 l q := ⟨h.1.mono hl, Nat.le_trans h.2 hl⟩
theorem Q9.neg {k : Nat} {q : Rat} (h : Q9 k q) : Q9 k (-q) := ⟨by rw [Rat.neg_num]; exact h.1.neg, by rw [Rat.neg_den]; exact h.2⟩
theorem div_sign (t : Int) (h : Nat) (hd : h ∣ t.natAbs) : (if decide (t < 0) = true then -((t.natAbs / h : Nat) : Int) else ((t.natAbs / h : Nat) : Int)) = t / h := by
  have e : t = t.sign * (t.natAbs : Int) := (Int.sign_mul_natAbs t).symm
  by_cases hz : t < 0
  · rw [decide_eq_true hz, if_pos rfl]
    have e2 : t = -(t.natAbs : Int) := by omega
    conv => rhs; rw [e2]
    rw [Int.neg_ediv_of_dvd (Int.ofNat_dvd.2 hd), Int.natCast_ediv]
  · rw [decide_eq_false hz, if_neg (by simp)]
    have e2 : t = (t.natAbs : Int) := by omega
    conv => rhs; rw [e2]
    rw [Int.natCast_ediv]
theorem negated_c (q : Rat) : Called Tryz.prog 142 [rtD q] (rtD (-q)) := by
  have h1 := opposite_c q.num
  have e : rtD (-q) = .agg [.ints .u32 (mg 1000000000 (-q.num).natAbs), .bool (decide (-q.num < 0)), .ints .u32 (mg 1000000000 q.den)] := by unfold rtD; rw [Rat.neg_num, Rat.neg_den]
  rw [e]
  refine called_of_run tbOk 6 ⟨Tryz.func142, rfl, rfl, Nat.le_of_ble_eq_true rfl⟩ ?_
  (conv => whnf)
  refine V.st ?_
  refine ⟨(.take 0 (.take 1 (.take 3 (.take 4 (.ev (.cons 2 [4, 3] (.take 5 (.ev (.cons 6 [] (.done) (.nil)))) (.nil))))))), [], ⟨by kernel_rfl, by kernel_rfl, by kernel_rfl, by kernel_rfl⟩, .go (drawD_one ?_)⟩
  (conv => whnf)
  refine V.st ?_
  repeat ((try ((with_reducible refine .ext ?_); (conv => whnf))); (with_reducible refine call_intro (r := ?_) ?_ ?_); rotate_left; (focus (first | exact (h1))); (conv => whnf); refine V.st ?_)
  exact Fin.of rfl
theorem add_c (x y : Rat) (hx : Q9 20000000 x) (hy : Q9 20000000 y) : Called Tryz.prog 52 [rtD x, rtD y] (rtD (x + y)) := by
  obtain ⟨p1, p2⟩ := add_parts x y
  have g1 := gcd_c x.den y.den (by have := hx.2; omega) (by have := hy.2; omega)
  have hg : 0 < Nat.gcd x.den y.den := Nat.gcd_pos_of_pos_left _ x.den_pos
  have lg := mg_len_mono (B := 1000000000) (by omega) (Nat.gcd_le_left y.den x.den_pos)
  generalize Nat.gcd x.den y.den = g at *
  have hx1 := hx.1
  have hy1 := hy.1
  have hx2 := hx.2
  have hy2 := hy.2
  have d1 := divide_c y.den g hg (by omega) (by omega)
  have d2 := divide_c x.den g hg (by omega) (by omega)
  have lL := mg_len_mono (B := 1000000000) (by omega) (Nat.div_le_self y.den g)
  have lR := mg_len_mono (B := 1000000000) (by omega) (Nat.div_le_self x.den g)
  have s1 := scaled_c x.num (y.den / g) (hx1.mono (by omega)) (by omega)
  have s2 := scaled_c y.num (x.den / g) (hy1.mono (by omega)) (by omega)
  have z1 : S9 40000000 (x.num * ((y.den / g : Nat) : Int)) := hx1.mul (l := 20000000) (S9.nat.2 (by omega))
  have z2 : S9 40000000 (y.num * ((x.den / g : Nat) : Int)) := hy1.mul (l := 20000000) (S9.nat.2 (by omega))
  have s3 := sum_c9 _ _ (z1.mono (by omega)) (z2.mono (by omega))
  have z3 := z1.add z2
  generalize x.num * ((y.den / g : Nat) : Int) + y.num * ((x.den / g : Nat) : Int) = top at *
  unfold S9 at z3
  have g2 := gcd_c top.natAbs g (by omega) (by omega)
  have hh : 0 < Nat.gcd top.natAbs g := Nat.gcd_pos_of_pos_right _ hg
  have lh := mg_len_mono (B := 1000000000) (by omega) (Nat.gcd_le_right top.natAbs hg)
  have hdv : Nat.gcd top.natAbs g ∣ top.natAbs := Nat.gcd_dvd_left _ _
  generalize Nat.gcd top.natAbs g = h at *
  have d3 := divide_c top.natAbs h hh (by omega) (by omega)
  have d4 := divide_c y.den h hh (by omega) (by omega)
  have lT := mg_len_mono (B := 1000000000) (by omega) (Nat.div_le_self y.den h)
  have t1 := times_c (x.den / g) (y.den / h) (by omega) (by omega)
  have m1 := signed_c (top.natAbs / h) (decide (top < 0))
  rw [div_sign top h hdv, ← p1] at m1
  rw [← p2] at t1
  refine called_of_run tbOk 6 ⟨Tryz.func52, rfl, rfl, Nat.le_of_ble_eq_true rfl⟩ ?_
  (conv => whnf)
  refine V.st ?_
  repeat ((try ((with_reducible refine .ext ?_); (conv => whnf))); (with_reducible refine call_intro (r := ?_) ?_ ?_); rotate_left; (focus (first | exact (g1) | exact (d1) | exact (d2))); (conv => whnf); refine V.st ?_)
  refine ⟨(.take 0 (.take 1 (.take 2 (.take 4 (.take 5 (.take 6 (.ev (.cons 3 [6, 5, 4] (.ev (.cons 7 [] (.ev (.cons 8 [] (.ev (.cons 9 [] (.ev (.cons 10 [] (.done) (.nil))) (.nil))) (.cons 9 [] (.ev (.cons 8 [] (.ev (.cons 10 [] (.done) (.nil))) (.nil))) (.nil)))) (.cons 9 [6, 5, 4] (.ev (.cons 7 [] (.ev (.cons 8 [] (.ev (.cons 10 [] (.done) (.nil))) (.nil))) (.nil))) (.nil)))) (.cons 9 [6, 5, 4, 2, 1, 0] (.ev (.cons 3 [6, 5, 4] (.ev (.cons 7 [] (.ev (.cons 8 [] (.ev (.cons 10 [] (.done) (.nil))) (.nil))) (.nil))) (.nil))) (.nil)))))))))), [], ⟨by kernel_rfl, by kernel_rfl, by kernel_rfl, by kernel_rfl⟩, ?_⟩
  refine drw_meet [(10, .box 10 0)] [(10, .box [.ints .u32 (mg 1000000000 top.natAbs), .bool (decide (top < 0))])] ?_ ?_
  · (conv => whnf); (try simp only [Nat.zero_add])
    repeat' (first | exact V.wk | ((with_reducible refine And.intro ?_ draw_nil); (conv => whnf); (try simp only [Nat.zero_add])) | ((with_reducible first | refine draw_split ?_ ?_ | refine nds_split ?_ ?_) <;> (conv => whnf); (try simp only [Nat.zero_add])) | ((first | refine V.s1 ?_ | ((with_reducible refine recheck_and ?_ ?_); (focus ((conv => whnf); (try simp only [Nat.zero_add]); (repeat ((first | refine V.s1 ?_); (try simp only [Nat.zero_add]))); exact ⟨rfl⟩)); (conv => whnf)) | ((try ((with_reducible refine .ext ?_); (conv => whnf); (try simp only [Nat.zero_add]))); (with_reducible refine call_intro (r := ?_) ?_ ?_); rotate_left; (focus (first | exact (s1) | exact (s2) | exact (s3))); (conv => whnf))); (try simp only [Nat.zero_add])) | (refine And.intro ?_ ?_ <;> (conv => whnf); (try simp only [Nat.zero_add])))
  (conv => whnf)
  refine V.st ?_
  repeat ((try ((with_reducible refine .ext ?_); (conv => whnf))); (with_reducible refine call_intro (r := ?_) ?_ ?_); rotate_left; (focus (first | exact (g2) | exact (d3) | exact (d4) | exact (m1) | exact (t1))); (conv => whnf); refine V.st ?_)
  exact Fin.of rfl
theorem sub_c (x y : Rat) (hx : Q9 20000000 x) (hy : Q9 20000000 y) : Called Tryz.prog 106 [rtD x, rtD y] (rtD (x - y)) := by
  have h1 := negated_c y
  have h2 := add_c x (-y) hx hy.neg
  rw [← Rat.sub_eq_add_neg] at h2
  refine called_of_run tbOk 6 ⟨Tryz.func106, rfl, rfl, Nat.le_of_ble_eq_true rfl⟩ ?_
  (conv => whnf)
  refine V.st ?_
  refine ⟨(.take 0 (.take 1 (.ev (.cons 2 [0] (.ev (.cons 3 [] (.ev (.cons 4 [] (.done) (.nil))) (.nil))) (.nil))))), [], ⟨by kernel_rfl, by kernel_rfl, by kernel_rfl, by kernel_rfl⟩, .go (drawD_one ?_)⟩
  (conv => whnf)
  refine V.st ?_
  repeat ((try ((with_reducible refine .ext ?_); (conv => whnf))); (with_reducible refine call_intro (r := ?_) ?_ ?_); rotate_left; (focus (first | exact (h1) | exact (h2))); (conv => whnf); refine V.st ?_)
  exact Fin.of rfl
theorem mul_num (x y : Rat) : (if (decide (x.num < 0) != decide (y.num < 0)) = true then -((x * y).num.natAbs : Int) else ((x * y).num.natAbs : Int)) = (x * y).num := by
  have h := mul_sign x y
  by_cases h0 : (x * y).num = 0
  · rw [h0]; simp
  · rw [decide_eq_false h0, Bool.not_false, Bool.and_true] at h
    rw [← h]
    by_cases h1 : (x * y).num < 0
    · rw [decide_eq_true h1, if_pos rfl]; omega
    · rw [decide_eq_false h1, if_neg (by simp)]; omega
theorem mul_c (x y : Rat) (hx : Q9 20000000 x) (hy : Q9 20000000 y) : Called Tryz.prog 67 [rtD x, rtD y] (rtD (x * y)) := by
  obtain ⟨p1, p2⟩ := mul_parts x y
  have pn := mul_num x y
  have hx1 := hx.1
  have hy1 := hy.1
  have hx2 := hx.2
  have hy2 := hy.2
  unfold S9 at hx1 hy1
  have g1 := gcd_c x.num.natAbs y.den (by omega) (by omega)
  have g2 := gcd_c y.num.natAbs x.den (by omega) (by omega)
  have hg : 0 < Nat.gcd x.num.natAbs y.den := Nat.gcd_pos_of_pos_right _ y.den_pos
  have hh : 0 < Nat.gcd y.num.natAbs x.den := Nat.gcd_pos_of_pos_right _ x.den_pos
  have lg := mg_len_mono (B := 1000000000) (by omega) (Nat.gcd_le_right x.num.natAbs y.den_pos)
  have lh := mg_len_mono (B := 1000000000) (by omega) (Nat.gcd_le_right y.num.natAbs x.den_pos)
  generalize Nat.gcd x.num.natAbs y.den = g at *
  generalize Nat.gcd y.num.natAbs x.den = h at *
  have d1 := divide_c x.num.natAbs g hg (by omega) (by omega)
  have d2 := divide_c x.den h hh (by omega) (by omega)
  have d3 := divide_c y.num.natAbs h hh (by omega) (by omega)
  have d4 := divide_c y.den g hg (by omega) (by omega)
  have l1 := mg_len_mono (B := 1000000000) (by omega) (Nat.div_le_self x.num.natAbs g)
  have l2 := mg_len_mono (B := 1000000000) (by omega) (Nat.div_le_self x.den h)
  have l3 := mg_len_mono (B := 1000000000) (by omega) (Nat.div_le_self y.num.natAbs h)
  have l4 := mg_len_mono (B := 1000000000) (by omega) (Nat.div_le_self y.den g)
  have t1 := times_c (x.num.natAbs / g) (y.num.natAbs / h) (by omega) (by omega)
  have t2 := times_c (x.den / h) (y.den / g) (by omega) (by omega)
  rw [← p1] at t1
  rw [← p2] at t2
  have m1 := signed_c (x * y).num.natAbs (decide (x.num < 0) != decide (y.num < 0))
  rw [pn] at m1
  refine called_of_run tbOk 6 ⟨Tryz.func67, rfl, rfl, Nat.le_of_ble_eq_true rfl⟩ ?_
  (conv => whnf)
  refine V.st ?_
  repeat ((try ((with_reducible refine .ext ?_); (conv => whnf))); (with_reducible refine call_intro (r := ?_) ?_ ?_); rotate_left; (focus (first | exact (g1) | exact (g2) | exact (d1) | exact (d2) | exact (d3) | exact (d4))); (conv => whnf); refine V.st ?_)
  refine ⟨(.take 0 (.take 1 (.take 3 (.take 4 (.take 5 (.take 6 (.take 7 (.take 8 (.take 9 (.take 11 (.take 12 (.ev (.cons 2 [12, 11, 9, 8, 7, 6, 5, 4, 3] (.ev (.cons 10 [12, 11] (.ev (.cons 13 [] (.take 14 (.ev (.cons 15 [] (.done) (.nil)))) (.nil))) (.nil))) (.nil)))))))))))))), [], ⟨by kernel_rfl, by kernel_rfl, by kernel_rfl, by kernel_rfl⟩, .go (drawD_one ?_)⟩
  (conv => whnf)
  refine V.st ?_
  repeat ((try ((with_reducible refine .ext ?_); (conv => whnf))); (with_reducible refine call_intro (r := ?_) ?_ ?_); rotate_left; (focus (first | exact (t1) | exact (m1) | exact (t2))); (conv => whnf); refine V.st ?_)
  exact Fin.of rfl
theorem inv_parts (q : Rat) (hq : q.num ≠ 0) : q⁻¹.num = (if decide (q.num < 0) = true then -(q.den : Int) else (q.den : Int)) ∧ q⁻¹.den = q.num.natAbs := by
  have hd := q.den_pos
  have hc : Nat.Coprime (if decide (q.num < 0) = true then -(q.den : Int) else (q.den : Int)).natAbs q.num.natAbs := by
    have e : (if decide (q.num < 0) = true then -(q.den : Int) else (q.den : Int)).natAbs = q.den := by
      split <;> simp
    rw [e]
    exact q.reduced.symm
  have e : q⁻¹ = Rat.divInt (if decide (q.num < 0) = true then -(q.den : Int) else (q.den : Int)) (q.num.natAbs : Nat) := by
    rw [Rat.inv_def, Rat.divInt_eq_divInt_iff hq (by omega)]
    by_cases h : q.num < 0
    · rw [decide_eq_true h, if_pos rfl, show (q.num.natAbs : Int) = -q.num by omega, Int.mul_neg, Int.neg_mul]
    · rw [decide_eq_false h, if_neg (by simp), show (q.num.natAbs : Int) = q.num by omega]
  obtain ⟨h1, h2⟩ := divInt_cop _ q.num.natAbs (by omega) hc
  rw [e]
  exact ⟨h1, h2⟩
theorem inverse_c (q : Rat) (hq : q.num ≠ 0) : Called Tryz.prog 128 [rtD q] (rtD q⁻¹) := by
  obtain ⟨p1, p2⟩ := inv_parts q hq
  have m1 := signed_c q.den (decide (q.num < 0))
  rw [← p1] at m1
  have e : rtD q⁻¹ = .agg [.ints .u32 (mg 1000000000 q⁻¹.num.natAbs), .bool (decide (q⁻¹.num < 0)), .ints .u32 (mg 1000000000 q.num.natAbs)] := by unfold rtD; rw [p2]
  rw [e]
  refine called_of_run tbOk 6 ⟨Tryz.func128, rfl, rfl, Nat.le_of_ble_eq_true rfl⟩ ?_
  (conv => whnf)
  refine V.st ?_
  refine ⟨(.take 0 (.take 1 (.take 2 (.take 3 (.take 4 (.take 6 (.take 7 (.take 8 (.ev (.cons 5 [8, 7, 6] (.take 9 (.ev (.cons 10 [] (.done) (.nil)))) (.nil))))))))))), [], ⟨by kernel_rfl, by kernel_rfl, by kernel_rfl, by kernel_rfl⟩, .go (drawD_one ?_)⟩
  (conv => whnf)
  refine V.st ?_
  repeat ((try ((with_reducible refine .ext ?_); (conv => whnf))); (with_reducible refine call_intro (r := ?_) ?_ ?_); rotate_left; (focus (first | exact (m1))); (conv => whnf); refine V.st ?_)
  exact Fin.of rfl
end Go.Proofs.YtpcpgjcdkgcbpaaGreatDoor
end
