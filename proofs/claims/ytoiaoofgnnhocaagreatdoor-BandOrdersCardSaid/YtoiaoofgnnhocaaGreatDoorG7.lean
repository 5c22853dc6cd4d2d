/- What some functions of the program answer at values that mean given lists, texts and numbers, each proved of the program's own code: part 7 of 7. Conditions: those that each theorem names. -/
import Derived.Test.YtoiaoofgnnhocaaGreatDoorG6
set_option linter.unusedSimpArgs false
set_option linter.unusedVariables false
section
/-! smaller bands have smaller results: plain laws -/
set_option linter.unusedSimpArgs false
set_option linter.unusedVariables false
set_option maxHeartbeats 8000000
set_option maxRecDepth 100000
namespace Go.Proofs.YtoiaoofgnnhocaaGreatDoor
open Go Go.V Go.Nb
theorem corner_lo {p q p2 q2 x y : Int} (hx : p ≤ x ∧ x ≤ q) (hy : p2 ≤ y ∧ y ≤ q2) : p * p2 ≤ x * y ∨ p * q2 ≤ x * y ∨ q * p2 ≤ x * y ∨ q * q2 ≤ x * y := by
  rcases Int.le_total 0 y with h | h
  · have h1 : p * y ≤ x * y := Int.mul_le_mul_of_nonneg_right hx.1 h
    rcases Int.le_total 0 p with g | g
    · have h2 : p * p2 ≤ p * y := Int.mul_le_mul_of_nonneg_left hy.1 g
      omega
    · have h2 : p * q2 ≤ p * y := Int.mul_le_mul_of_nonpos_left g hy.2
      omega
  · have h1 : q * y ≤ x * y := Int.mul_le_mul_of_nonpos_right hx.2 h
    rcases Int.le_total 0 q with g | g
    · have h2 : q * p2 ≤ q * y := Int.mul_le_mul_of_nonneg_left hy.1 g
      omega
    · have h2 : q * q2 ≤ q * y := Int.mul_le_mul_of_nonpos_left g hy.2
      omega
theorem corner_hi {p q p2 q2 x y : Int} (hx : p ≤ x ∧ x ≤ q) (hy : p2 ≤ y ∧ y ≤ q2) : x * y ≤ p * p2 ∨ x * y ≤ p * q2 ∨ x * y ≤ q * p2 ∨ x * y ≤ q * q2 := by
  have h := corner_lo (p := -q) (q := -p) (x := -x) (by omega) hy
  simp only [Int.neg_mul] at h
  omega
theorem mnf {d z a b c e : Int} (hd : 0 < d) (h : a ≤ z ∨ b ≤ z ∨ c ≤ z ∨ e ≤ z) : mn4 (flo a d) (flo b d) (flo c d) (flo e d) ≤ flo z d := by
  unfold mn4
  rcases h with h | h | h | h <;> (have := flo_mono hd h; omega)
theorem mxc {d z a b c e : Int} (hd : 0 < d) (h : z ≤ a ∨ z ≤ b ∨ z ≤ c ∨ z ≤ e) : cei z d ≤ mx4 (cei a d) (cei b d) (cei c d) (cei e d) := by
  unfold mx4
  rcases h with h | h | h | h <;> (have := cei_mono hd h; omega)
theorem mn4_le {m a b c d : Int} (h1 : m ≤ a) (h2 : m ≤ b) (h3 : m ≤ c) (h4 : m ≤ d) : m ≤ mn4 a b c d := by unfold mn4; omega
theorem le_mx4 {m a b c d : Int} (h1 : a ≤ m) (h2 : b ≤ m) (h3 : c ≤ m) (h4 : d ≤ m) : mx4 a b c d ≤ m := by unfold mx4; omega
theorem mn_mx {a b c d a' b' c' d' : Int} (h : a ≤ a') : mn4 a b c d ≤ mx4 a' b' c' d' := by unfold mn4 mx4; omega
/-- what is said of the results on bands and on smaller ones -/
def Shr (r s : Int × Int × Int) : Prop := (∃ x y x' y', r = (x, y, 0) ∧ s = (x', y', 0) ∧ x ≤ x' ∧ y' ≤ y) ∨ r = (0, 0, 6) ∨ r = (0, 0, 7)
theorem shr_mk {p q p' q' : Int} (h1 : p ≤ p') (h2 : q' ≤ q) (h3 : p' ≤ q') : Shr (mk p q) (mk p' q') := by
  by_cases hv : vb p q = true
  · have hb := vb_iff.1 hv
    exact .inl ⟨p, q, p', q', mk_ok hb, mk_ok (by omega), h1, h2⟩
  · refine .inr (.inl ?_)
    unfold mk; rw [if_neg hv]
theorem shr_mul {p q p2 q2 m n m2 n2 : Int} (h1 : p ≤ m) (h2 : m ≤ n) (h3 : n ≤ q) (g1 : p2 ≤ m2) (g2 : m2 ≤ n2) (g3 : n2 ≤ q2) : Shr (mulR p q p2 q2) (mulR m n m2 n2) := by
  unfold mulR
  have lo : ∀ x y, m ≤ x ∧ x ≤ n → m2 ≤ y ∧ y ≤ n2 → mn4 (flo (p * p2) 1000000000000) (flo (p * q2) 1000000000000) (flo (q * p2) 1000000000000) (flo (q * q2) 1000000000000) ≤ flo (x * y) 1000000000000 :=
    fun x y hx hy => mnf (by omega) (corner_lo (by omega) (by omega))
  have hi : ∀ x y, m ≤ x ∧ x ≤ n → m2 ≤ y ∧ y ≤ n2 → cei (x * y) 1000000000000 ≤ mx4 (cei (p * p2) 1000000000000) (cei (p * q2) 1000000000000) (cei (q * p2) 1000000000000) (cei (q * q2) 1000000000000) :=
    fun x y hx hy => mxc (by omega) (corner_hi (by omega) (by omega))
  exact shr_mk (mn4_le (lo _ _ (by omega) (by omega)) (lo _ _ (by omega) (by omega)) (lo _ _ (by omega) (by omega)) (lo _ _ (by omega) (by omega)))
    (le_mx4 (hi _ _ (by omega) (by omega)) (hi _ _ (by omega) (by omega)) (hi _ _ (by omega) (by omega)) (hi _ _ (by omega) (by omega))) (mn_mx (flo_le_cei _ _ (by omega)))
theorem ediv_pos_mono {a y z : Int} (ha : 0 ≤ a) (hy : 0 < y) (hz : y ≤ z) : a / z ≤ a / y := by
  refine (Int.le_ediv_iff_mul_le hy).2 ?_
  have h0 : 0 ≤ a / z := Int.ediv_nonneg ha (by omega)
  have h1 := Int.mul_le_mul_of_nonneg_left hz h0
  have h2 := Int.ediv_mul_le a (b := z) (by omega)
  omega
theorem ediv_neg_mono {a y z : Int} (ha : a ≤ 0) (hy : 0 < y) (hz : y ≤ z) : a / y ≤ a / z := by
  refine (Int.le_ediv_iff_mul_le (by omega)).2 ?_
  have h0 : a / y ≤ 0 := by
    have := Int.ediv_le_ediv hy ha
    simpa using this
  have h1 : a / y * z ≤ a / y * y := Int.mul_le_mul_of_nonpos_left h0 hz
  have h2 := Int.ediv_mul_le a (b := y) (by omega)
  omega
theorem ediv_corner {a z y p2 q2 : Int} (hp : 0 < p2) (haz : a ≤ z) (h1 : p2 ≤ y) (h2 : y ≤ q2) : a / p2 ≤ z / y ∨ a / q2 ≤ z / y := by
  have h3 := Int.ediv_le_ediv (show 0 < y by omega) haz
  rcases Int.le_total 0 a with h | h
  · have := ediv_pos_mono h (show 0 < y by omega) h2
    omega
  · have := ediv_neg_mono h hp h1
    omega
theorem div_lo {p q p2 q2 x y : Int} (hx : p ≤ x ∧ x ≤ q) (hy : p2 ≤ y ∧ y ≤ q2) (hz : 0 < p2 ∨ q2 < 0) : flo (p * 1000000000000) p2 ≤ flo (x * 1000000000000) y ∨ flo (p * 1000000000000) q2 ≤ flo (x * 1000000000000) y ∨ flo (q * 1000000000000) p2 ≤ flo (x * 1000000000000) y ∨ flo (q * 1000000000000) q2 ≤ flo (x * 1000000000000) y := by
  unfold flo
  rcases hz with hz | hz
  · rw [if_pos hz, if_pos (show 0 < y by omega), if_pos (show 0 < q2 by omega)]
    have := ediv_corner hz (show p * 1000000000000 ≤ x * 1000000000000 by omega) hy.1 hy.2
    omega
  · rw [if_neg (show ¬ 0 < p2 by omega), if_neg (show ¬ 0 < y by omega), if_neg (show ¬ 0 < q2 by omega)]
    have := ediv_corner (p2 := -q2) (q2 := -p2) (y := -y) (by omega) (show -(q * 1000000000000) ≤ -(x * 1000000000000) by omega) (by omega) (by omega)
    rw [if_neg (show ¬ 0 < p2 by omega)]
    omega
theorem div_hi {p q p2 q2 x y : Int} (hx : p ≤ x ∧ x ≤ q) (hy : p2 ≤ y ∧ y ≤ q2) (hz : 0 < p2 ∨ q2 < 0) : cei (x * 1000000000000) y ≤ cei (p * 1000000000000) p2 ∨ cei (x * 1000000000000) y ≤ cei (p * 1000000000000) q2 ∨ cei (x * 1000000000000) y ≤ cei (q * 1000000000000) p2 ∨ cei (x * 1000000000000) y ≤ cei (q * 1000000000000) q2 := by
  have h := div_lo (p := -q) (q := -p) (x := -x) (by omega) hy hz
  unfold cei
  simp only [Int.neg_mul] at h
  omega
theorem shr_div {p q p2 q2 m n m2 n2 : Int} (h1 : p ≤ m) (h2 : m ≤ n) (h3 : n ≤ q) (g1 : p2 ≤ m2) (g2 : m2 ≤ n2) (g3 : n2 ≤ q2) : Shr (if p2 ≤ 0 ∧ 0 ≤ q2 then (0, 0, 7) else divR p q p2 q2) (if m2 ≤ 0 ∧ 0 ≤ n2 then (0, 0, 7) else divR m n m2 n2) := by
  by_cases hz : p2 ≤ 0 ∧ 0 ≤ q2
  · rw [if_pos hz]; exact .inr (.inr rfl)
  · rw [if_neg hz, if_neg (by omega)]
    unfold divR
    have lo : ∀ x y, m ≤ x ∧ x ≤ n → m2 ≤ y ∧ y ≤ n2 → mn4 (flo (p * 1000000000000) p2) (flo (p * 1000000000000) q2) (flo (q * 1000000000000) p2) (flo (q * 1000000000000) q2) ≤ flo (x * 1000000000000) y :=
      fun x y hx hy => by
        have := div_lo (p := p) (q := q) (p2 := p2) (q2 := q2) (x := x) (y := y) (by omega) (by omega) (by omega)
        unfold mn4; omega
    have hi : ∀ x y, m ≤ x ∧ x ≤ n → m2 ≤ y ∧ y ≤ n2 → cei (x * 1000000000000) y ≤ mx4 (cei (p * 1000000000000) p2) (cei (p * 1000000000000) q2) (cei (q * 1000000000000) p2) (cei (q * 1000000000000) q2) :=
      fun x y hx hy => by
        have := div_hi (p := p) (q := q) (p2 := p2) (q2 := q2) (x := x) (y := y) (by omega) (by omega) (by omega)
        unfold mx4; omega
    exact shr_mk (mn4_le (lo _ _ (by omega) (by omega)) (lo _ _ (by omega) (by omega)) (lo _ _ (by omega) (by omega)) (lo _ _ (by omega) (by omega)))
      (le_mx4 (hi _ _ (by omega) (by omega)) (hi _ _ (by omega) (by omega)) (hi _ _ (by omega) (by omega)) (hi _ _ (by omega) (by omega))) (mn_mx (flo_le_cei _ _ (by omega)))
/-- the choices of two bands, told plainly -/
theorem min_R {p q p2 q2 : Int} (h : p ≤ q) (h2 : p2 ≤ q2) : (if p = p2 ∧ q = q2 then (p, q, (0 : Int)) else if min q q2 < min p p2 then (0, 0, 4) else (min p p2, min q q2, 0)) = (min p p2, min q q2, 0) := by
  by_cases he : p = p2 ∧ q = q2
  · rw [if_pos he, show min p p2 = p by omega, show min q q2 = q by omega]
  · rw [if_neg he, if_neg (by omega)]
theorem max_R {p q p2 q2 : Int} (h : p ≤ q) (h2 : p2 ≤ q2) : (if p = p2 ∧ q = q2 then (p, q, (0 : Int)) else if max q q2 < max p p2 then (0, 0, 4) else (max p p2, max q q2, 0)) = (max p p2, max q q2, 0) := by
  by_cases he : p = p2 ∧ q = q2
  · rw [if_pos he, show max p p2 = p by omega, show max q q2 = q by omega]
  · rw [if_neg he, if_neg (by omega)]
theorem hull_R {p q p2 q2 : Int} (h : p ≤ q) (h2 : p2 ≤ q2) : (if p = p2 ∧ q = q2 then (p, q, (0 : Int)) else if max q q2 < min p p2 then (0, 0, 4) else (min p p2, max q q2, 0)) = (min p p2, max q q2, 0) := by
  by_cases he : p = p2 ∧ q = q2
  · rw [if_pos he, show min p p2 = p by omega, show max q q2 = q by omega]
  · rw [if_neg he, if_neg (by omega)]
end Go.Proofs.YtoiaoofgnnhocaaGreatDoor
end
section
/-! pairs of bands -/
set_option linter.unusedSimpArgs false
set_option linter.unusedVariables false
set_option maxHeartbeats 8000000
set_option maxRecDepth 100000
namespace Go.Proofs.YtoiaoofgnnhocaaGreatDoor
open Go Go.V Go.Nb
/-- the cells of the five pairs -/
def prL (p q p2 q2 a w a2 w2 : Int) : List D := [.int .i64 p, .int .i64 q, .int .i64 p2, .int .i64 q2, .int .i64 (bnL a), .int .i64 (bnH a w), .int .i64 (bnL a2), .int .i64 (bnH a2 w2), .int .i64 (smL a), .int .i64 (smH a w), .int .i64 (smL a2), .int .i64 (smH a2 w2), .int .i64 (bnL a), .int .i64 (bnH a w), .int .i64 (unL a2), .int .i64 (unH a2 w2), .int .i64 (unL a), .int .i64 (unH a w), .int .i64 p2, .int .i64 q2]
def prs (p q p2 q2 a w a2 w2 : Int) : Nat → List D := fun j => List.take 4 (List.drop (0 + j * 4) (prL p q p2 q2 a w a2 w2))
theorem pairs_c (p q p2 q2 a w a2 w2 : Int) (hw : 0 ≤ w ∧ w ≤ 4294967295) (hw2 : 0 ≤ w2 ∧ w2 ≤ 4294967295) : Called Tryz.prog 8 [.agg [.int .i64 p, .int .i64 q, .int .i64 p2, .int .i64 q2, .int .i64 a, .int .u32 w, .int .i64 a2, .int .u32 w2]] (.slf 4 5 (prs p q p2 q2 a w a2 w2)) := by
  have b1 := bandD_c a w hw
  have b2 := bandD_c a2 w2 hw2
  have s1 := smallD_c a w
  have s2 := smallD_c a2 w2
  have u1 := unitD_c a w
  have u2 := unitD_c a2 w2
  unfold prs prL
  generalize bnL a = x1 at *
  generalize bnH a w = x2 at *
  generalize bnL a2 = x3 at *
  generalize bnH a2 w2 = x4 at *
  generalize smL a = x5 at *
  generalize smH a w = x6 at *
  generalize smL a2 = x7 at *
  generalize smH a2 w2 = x8 at *
  generalize unL a = x9 at *
  generalize unH a w = x10 at *
  generalize unL a2 = x11 at *
  generalize unH a2 w2 = x12 at *
  refine called_of_run tbOk 6 ⟨Tryz.func8, rfl, rfl, Nat.le_of_ble_eq_true rfl⟩ ?_
  (conv => whnf)
  refine V.st ?_
  refine ⟨(.take 0 (.take 1 (.take 2 (.take 3 (.take 4 (.take 5 (.take 6 (.take 8 (.take 9 (.take 12 (.take 13 (.take 15 (.take 16 (.take 19 (.take 20 (.take 22 (.take 23 (.take 26 (.take 27 (.take 29 (.take 30 (.ev (.cons 7 [30, 29, 27, 26, 23, 22, 20, 19, 16, 15, 13, 12, 9, 8, 4, 3, 2, 1, 0] (.ev (.cons 10 [30, 29, 27, 26, 23, 22, 20, 19, 16, 15, 13, 12, 4, 3, 2, 1, 0] (.take 11 (.ev (.cons 14 [11, 30, 29, 27, 26, 23, 22, 20, 19, 16, 15, 4, 3, 2, 1, 0] (.ev (.cons 17 [11, 30, 29, 27, 26, 23, 22, 20, 19, 4, 3, 2, 1, 0] (.take 18 (.ev (.cons 21 [18, 11, 30, 29, 27, 26, 23, 22, 4, 3, 2, 1, 0] (.ev (.cons 24 [18, 11, 30, 29, 27, 26, 4, 3, 2, 1, 0] (.take 25 (.ev (.cons 28 [25, 18, 11, 30, 29, 4, 3, 2, 1, 0] (.take 31 (.ev (.cons 32 [] (.take 33 (.done)) (.nil)))) (.nil)))) (.nil))) (.nil)))) (.nil))) (.nil)))) (.nil))) (.nil)))))))))))))))))))))))), ⟨by kernel_rfl, by kernel_rfl, by kernel_rfl⟩, .go ?_⟩
  (conv => whnf)
  refine V.st ?_
  repeat ((try ((with_reducible refine .ext ?_); (conv => whnf))); (with_reducible refine call_intro (r := ?_) ?_ ?_); rotate_left; (focus (first | exact (b1) | exact (b2) | exact (s1) | exact (s2) | exact (u1) | exact (u2))); (conv => whnf); refine V.st ?_)
  exact Fin.of rfl
theorem mulR_comm (p q p2 q2 : Int) : mulR p2 q2 p q = mulR p q p2 q2 := by
  unfold mulR mn4 mx4
  rw [Int.mul_comm p2 p, Int.mul_comm p2 q, Int.mul_comm q2 p, Int.mul_comm q2 q]
  congr 1 <;> omega
end Go.Proofs.YtoiaoofgnnhocaaGreatDoor
end
section
/-! law BandOrders -/
set_option linter.unusedSimpArgs false
set_option linter.unusedVariables false
set_option maxHeartbeats 8000000
set_option maxRecDepth 100000
namespace Go.Proofs.YtoiaoofgnnhocaaGreatDoor
open Go Go.V Go.Nb
/-- the meet of two bands -/
theorem meet_R {p q p2 q2 : Int} (h : p ≤ q) (h2 : p2 ≤ q2) :
    (∃ x y, (if p = p2 ∧ q = q2 then (p, q, (0 : Int)) else if min q q2 < max p p2 then (0, 0, 4) else (max p p2, min q q2, 0)) = (x, y, 0) ∧ p ≤ x ∧ y ≤ q ∧ p2 ≤ x ∧ y ≤ q2 ∧ cmpB p q p2 q2 ≠ 1 ∧ cmpB p q p2 q2 ≠ -1) ∨
    ((if p = p2 ∧ q = q2 then (p, q, (0 : Int)) else if min q q2 < max p p2 then (0, 0, 4) else (max p p2, min q q2, 0)) = (0, 0, 4) ∧ (cmpB p q p2 q2 = 1 ∨ cmpB p q p2 q2 = -1)) := by
  unfold cmpB
  by_cases he : p = p2 ∧ q = q2
  · rw [if_pos he, if_neg (by omega), if_neg (by omega)]
    refine .inl ⟨_, _, rfl, by omega, by omega, by omega, by omega, ?_, ?_⟩ <;> (split <;> omega)
  · rw [if_neg he]
    by_cases hm : min q q2 < max p p2
    · rw [if_pos hm]
      refine .inr ⟨rfl, ?_⟩
      by_cases h3 : q2 < p
      · rw [if_pos h3]; exact .inl rfl
      · rw [if_neg h3, if_pos (by omega)]; exact .inr rfl
    · rw [if_neg hm, if_neg (by omega), if_neg (by omega)]
      refine .inl ⟨_, _, rfl, by omega, by omega, by omega, by omega, ?_, ?_⟩ <;> (split <;> omega)
/-- the sign of a difference is the order -/
theorem diff_R {p q p2 q2 : Int} (h : p ≤ q) (h2 : p2 ≤ q2) : ∃ d1 d2 j sg, mk (p - q2) (q - p2) = (d1, d2, j) ∧ Called Tryz.prog 28 [bA d1 d2] (.tup [.int .i64 sg, .int .i64 0]) ∧ (j = 0 → sg = cmpB p q p2 q2) := by
  by_cases hv : vb (p - q2) (q - p2) = true
  · have hs := sign_b (p - q2) (q - p2)
    rw [if_pos hv] at hs
    refine ⟨_, _, _, _, mk_ok (vb_iff.1 hv), hs, fun _ => ?_⟩
    unfold sgn cmpB
    by_cases h1 : q2 < p
    · rw [if_pos (by omega), if_pos h1]
    · rw [if_neg (by omega), if_neg h1]
      by_cases h3 : q < p2
      · rw [if_pos (by omega), if_pos h3]
      · rw [if_neg (by omega), if_neg h3]
        by_cases h4 : p - q2 = 0 ∧ q - p2 = 0
        · rw [if_pos h4, if_pos (by omega)]
        · rw [if_neg h4, if_neg (by omega)]
  · have hs := sign_b 0 0
    rw [if_pos (by decide)] at hs
    refine ⟨0, 0, 6, _, ?_, hs, fun h => by omega⟩
    unfold mk; rw [if_neg hv]
theorem bandOrders_c (p q p2 q2 a w a2 w2 : Int) (hw : 0 ≤ w ∧ w ≤ 4294967295) (hw2 : 0 ≤ w2 ∧ w2 ≤ 4294967295) : Called Tryz.prog 4 [.agg [.int .i64 p, .int .i64 q, .int .i64 p2, .int .i64 q2, .int .i64 a, .int .u32 w, .int .i64 a2, .int .u32 w2]] (.bool true) := by
  have c0 := works_c
  have c1 := pairs_c p q p2 q2 a w a2 w2 hw hw2
  refine called_of_run tbOk 6 ⟨Tryz.func4, rfl, rfl, Nat.le_of_ble_eq_true rfl⟩ ?_
  (conv => whnf)
  refine V.st ?_
  repeat ((try ((with_reducible refine .ext ?_); (conv => whnf))); (with_reducible refine call_intro (r := ?_) ?_ ?_); rotate_left; (focus (first | exact (c0) | exact (c1))); (conv => whnf); refine V.st ?_)
  refine lp_any (0 : Nat) (fun k => k ≤ 3) (fun k => 3 - k) (fun k => [(29, .int .i64 k)]) (fun _ => []) ?_ ?_ ?_
  · exact V.wk
  · exact Nat.zero_le _
  intro k hk
  clear c0 c1
  rcases (by omega : k = 0 ∨ k = 1 ∨ k = 2 ∨ k = 3) with e | e | e | e
  · subst e
    (conv => whnf)
    refine V.st ?_
    obtain ⟨p, hp⟩ : ∃ p, bnL a = p := ⟨_, rfl⟩
    obtain ⟨q, hq⟩ : ∃ p, bnH a w = p := ⟨_, rfl⟩
    obtain ⟨p2, hp2⟩ : ∃ p, bnL a2 = p := ⟨_, rfl⟩
    obtain ⟨q2, hq2⟩ : ∃ p, bnH a2 w2 = p := ⟨_, rfl⟩
    have v1 : vb p q = true := by rw [← hp, ← hq]; exact bn_vb a w hw.1
    have v2 : vb p2 q2 = true := by rw [← hp2, ← hq2]; exact bn_vb a2 w2 hw2.1
    have b1 := vb_iff.1 v1
    have b2 := vb_iff.1 v2
    have k1 := add_b p q p2 q2
    have k2 := add_b p2 q2 p q
    have k3 := mul_b p q p2 q2
    have k4 := mul_b p2 q2 p q
    have k5 := neg_b p2 q2
    have k6 := sub_b p q p2 q2
    have v3 : vb (0 - q2) (0 - p2) = true := vb_iff.2 (by omega)
    have k7 := add_b p q (0 - q2) (0 - p2)
    have k8 := hull_b p q p2 q2
    have k9 := meet_b p q p2 q2
    have k10 := cmp_b p q p2 q2
    rw [if_pos ⟨v1, v2⟩] at k1 k3 k6 k8 k9 k10
    rw [if_pos ⟨v2, v1⟩] at k2 k4
    rw [if_pos v2, mk_ok (vb_iff.1 v3)] at k5
    rw [if_pos ⟨v1, v3⟩] at k7
    rw [Int.add_comm p2 p, Int.add_comm q2 q] at k2
    rw [mulR_comm] at k4
    rw [show p + (0 - q2) = p - q2 by omega, show q + (0 - p2) = q - p2 by omega] at k7
    rw [hull_R b1.2.1 b2.2.1] at k8
    have i1 : Called Tryz.prog 26 [bA p q, bA (min p p2) (max q q2)] (.bool true) := inside_yes (by omega) (by omega)
    have i2 : Called Tryz.prog 26 [bA p2 q2, bA (min p p2) (max q q2)] (.bool true) := inside_yes (by omega) (by omega)
    obtain ⟨d1, d2, j, sg, ed, ks, hj⟩ := diff_R (p := p) (q := q) (p2 := p2) (q2 := q2) b1.2.1 b2.2.1
    rw [ed] at k6 k7
    have hm := meet_R (p := p) (q := q) (p2 := p2) (q2 := q2) b1.2.1 b2.2.1
    generalize cmpB p q p2 q2 = o at *
    generalize min p p2 = h1 at *
    generalize max q q2 = h2 at *
    generalize mk (p + p2) (q + q2) = r1 at *
    generalize mulR p q p2 q2 = r2 at *
    clear v1 v2 v3 ed
    rcases hm with ⟨x, y, e, m1, m2, m3, m4, m5, m6⟩ | ⟨e, m5⟩
    · rw [e] at k9
      have i3 := inside_yes m1 m2
      have i4 := inside_yes m3 m4
      clear m1 m2 m3 m4 e b1 b2
      (conv => whnf)
      (try simp only [hp, hq, hp2, hq2])
      repeat (first | (refine V.s1 ?_; (try simp only [hp, hq, hp2, hq2])) | ((with_reducible refine recheck_and ?_ ?_); (focus ((conv => whnf); (try simp only [hp, hq, hp2, hq2]); (repeat (refine V.s1 ?_; (try simp only [hp, hq, hp2, hq2]))); exact ⟨rfl⟩)); (conv => whnf); (try simp only [hp, hq, hp2, hq2])) | ((try ((with_reducible refine .ext ?_); (conv => whnf); (try simp only [hp, hq, hp2, hq2]))); (with_reducible refine call_intro (r := ?_) ?_ ?_); rotate_left; (focus (first | exact (k1) | exact (k2) | exact (k3) | exact (k4) | exact (k5) | exact (k6) | exact (k7))); (conv => whnf); (try simp only [hp, hq, hp2, hq2])))
      refine Cnd.split (CondB.mk (fun g1 => ?_) (fun g1 => ?_))
      · simp at g1
      (conv => whnf)
      refine V.st ?_
      repeat ((try ((with_reducible refine .ext ?_); (conv => whnf))); (with_reducible refine call_intro (r := ?_) ?_ ?_); rotate_left; (focus (first | exact (k8) | exact (k9) | exact (i1) | exact (i2) | exact (i3) | exact (i4))); (conv => whnf); refine V.st ?_)
      refine Cnd.split (CondB.mk (fun g2 => ?_) (fun g2 => ?_))
      · simp at g2
      (conv => whnf)
      refine V.st ?_
      repeat ((try ((with_reducible refine .ext ?_); (conv => whnf))); (with_reducible refine call_intro (r := ?_) ?_ ?_); rotate_left; (focus (first | exact (k10) | exact (ks))); (conv => whnf); refine V.st ?_)
      refine And.intro (fun q1 q2 => by first | (rw [q1, q2]; rfl) | simp_all) ?_
      (conv => whnf)
      refine V.st ?_
      refine And.intro (fun q1 q2 => by first | (rw [q1, q2]; rfl) | simp_all) ?_
      (conv => whnf)
      refine V.st ?_
      refine Cnd.split (CondB.mk (fun g3 => ?_) (fun g3 => ?_))
      · simp at g3
        omega
      (conv => whnf)
      refine V.st ?_
      exact ⟨1, by omega, by omega, V.wk⟩
    · rw [e] at k9
      clear e b1 b2
      (conv => whnf)
      (try simp only [hp, hq, hp2, hq2])
      repeat (first | (refine V.s1 ?_; (try simp only [hp, hq, hp2, hq2])) | ((with_reducible refine recheck_and ?_ ?_); (focus ((conv => whnf); (try simp only [hp, hq, hp2, hq2]); (repeat (refine V.s1 ?_; (try simp only [hp, hq, hp2, hq2]))); exact ⟨rfl⟩)); (conv => whnf); (try simp only [hp, hq, hp2, hq2])) | ((try ((with_reducible refine .ext ?_); (conv => whnf); (try simp only [hp, hq, hp2, hq2]))); (with_reducible refine call_intro (r := ?_) ?_ ?_); rotate_left; (focus (first | exact (k1) | exact (k2) | exact (k3) | exact (k4) | exact (k5) | exact (k6) | exact (k7))); (conv => whnf); (try simp only [hp, hq, hp2, hq2])))
      refine Cnd.split (CondB.mk (fun g1 => ?_) (fun g1 => ?_))
      · simp at g1
      (conv => whnf)
      refine V.st ?_
      repeat ((try ((with_reducible refine .ext ?_); (conv => whnf))); (with_reducible refine call_intro (r := ?_) ?_ ?_); rotate_left; (focus (first | exact (k8) | exact (k9) | exact (i1) | exact (i2))); (conv => whnf); refine V.st ?_)
      refine ⟨.bool false, fun h => by simp at h, ?_⟩
      (conv => whnf)
      refine V.st ?_
      refine ⟨.bool false, fun h => by simp at h, ?_⟩
      (conv => whnf)
      refine V.st ?_
      refine Cnd.split (CondB.mk (fun g2 => ?_) (fun g2 => ?_))
      · simp at g2
      (conv => whnf)
      refine V.st ?_
      repeat ((try ((with_reducible refine .ext ?_); (conv => whnf))); (with_reducible refine call_intro (r := ?_) ?_ ?_); rotate_left; (focus (first | exact (k10) | exact (ks))); (conv => whnf); refine V.st ?_)
      refine And.intro (fun q1 q2 => by first | (rw [q1, q2]; rfl) | simp_all) ?_
      (conv => whnf)
      refine V.st ?_
      refine And.intro (fun q1 q2 => by first | (rw [q1, q2]; rfl) | simp_all) ?_
      (conv => whnf)
      refine V.st ?_
      refine Cnd.split (CondB.mk (fun g3 => ?_) (fun g3 => ?_))
      · simp at g3
        omega
      (conv => whnf)
      refine V.st ?_
      exact ⟨1, by omega, by omega, V.wk⟩
  · subst e
    (conv => whnf)
    refine V.st ?_
    obtain ⟨p, hp⟩ : ∃ p, smL a = p := ⟨_, rfl⟩
    obtain ⟨q, hq⟩ : ∃ p, smH a w = p := ⟨_, rfl⟩
    obtain ⟨p2, hp2⟩ : ∃ p, smL a2 = p := ⟨_, rfl⟩
    obtain ⟨q2, hq2⟩ : ∃ p, smH a2 w2 = p := ⟨_, rfl⟩
    have v1 : vb p q = true := by rw [← hp, ← hq]; exact sm_vb a w
    have v2 : vb p2 q2 = true := by rw [← hp2, ← hq2]; exact sm_vb a2 w2
    have b1 := vb_iff.1 v1
    have b2 := vb_iff.1 v2
    have k1 := add_b p q p2 q2
    have k2 := add_b p2 q2 p q
    have k3 := mul_b p q p2 q2
    have k4 := mul_b p2 q2 p q
    have k5 := neg_b p2 q2
    have k6 := sub_b p q p2 q2
    have v3 : vb (0 - q2) (0 - p2) = true := vb_iff.2 (by omega)
    have k7 := add_b p q (0 - q2) (0 - p2)
    have k8 := hull_b p q p2 q2
    have k9 := meet_b p q p2 q2
    have k10 := cmp_b p q p2 q2
    rw [if_pos ⟨v1, v2⟩] at k1 k3 k6 k8 k9 k10
    rw [if_pos ⟨v2, v1⟩] at k2 k4
    rw [if_pos v2, mk_ok (vb_iff.1 v3)] at k5
    rw [if_pos ⟨v1, v3⟩] at k7
    rw [Int.add_comm p2 p, Int.add_comm q2 q] at k2
    rw [mulR_comm] at k4
    rw [show p + (0 - q2) = p - q2 by omega, show q + (0 - p2) = q - p2 by omega] at k7
    rw [hull_R b1.2.1 b2.2.1] at k8
    have i1 : Called Tryz.prog 26 [bA p q, bA (min p p2) (max q q2)] (.bool true) := inside_yes (by omega) (by omega)
    have i2 : Called Tryz.prog 26 [bA p2 q2, bA (min p p2) (max q q2)] (.bool true) := inside_yes (by omega) (by omega)
    obtain ⟨d1, d2, j, sg, ed, ks, hj⟩ := diff_R (p := p) (q := q) (p2 := p2) (q2 := q2) b1.2.1 b2.2.1
    rw [ed] at k6 k7
    have hm := meet_R (p := p) (q := q) (p2 := p2) (q2 := q2) b1.2.1 b2.2.1
    generalize cmpB p q p2 q2 = o at *
    generalize min p p2 = h1 at *
    generalize max q q2 = h2 at *
    generalize mk (p + p2) (q + q2) = r1 at *
    generalize mulR p q p2 q2 = r2 at *
    clear v1 v2 v3 ed
    rcases hm with ⟨x, y, e, m1, m2, m3, m4, m5, m6⟩ | ⟨e, m5⟩
    · rw [e] at k9
      have i3 := inside_yes m1 m2
      have i4 := inside_yes m3 m4
      clear m1 m2 m3 m4 e b1 b2
      (conv => whnf)
      (try simp only [hp, hq, hp2, hq2])
      repeat (first | (refine V.s1 ?_; (try simp only [hp, hq, hp2, hq2])) | ((with_reducible refine recheck_and ?_ ?_); (focus ((conv => whnf); (try simp only [hp, hq, hp2, hq2]); (repeat (refine V.s1 ?_; (try simp only [hp, hq, hp2, hq2]))); exact ⟨rfl⟩)); (conv => whnf); (try simp only [hp, hq, hp2, hq2])) | ((try ((with_reducible refine .ext ?_); (conv => whnf); (try simp only [hp, hq, hp2, hq2]))); (with_reducible refine call_intro (r := ?_) ?_ ?_); rotate_left; (focus (first | exact (k1) | exact (k2) | exact (k3) | exact (k4) | exact (k5) | exact (k6) | exact (k7))); (conv => whnf); (try simp only [hp, hq, hp2, hq2])))
      refine Cnd.split (CondB.mk (fun g1 => ?_) (fun g1 => ?_))
      · simp at g1
      (conv => whnf)
      refine V.st ?_
      repeat ((try ((with_reducible refine .ext ?_); (conv => whnf))); (with_reducible refine call_intro (r := ?_) ?_ ?_); rotate_left; (focus (first | exact (k8) | exact (k9) | exact (i1) | exact (i2) | exact (i3) | exact (i4))); (conv => whnf); refine V.st ?_)
      refine Cnd.split (CondB.mk (fun g2 => ?_) (fun g2 => ?_))
      · simp at g2
      (conv => whnf)
      refine V.st ?_
      repeat ((try ((with_reducible refine .ext ?_); (conv => whnf))); (with_reducible refine call_intro (r := ?_) ?_ ?_); rotate_left; (focus (first | exact (k10) | exact (ks))); (conv => whnf); refine V.st ?_)
      refine And.intro (fun q1 q2 => by first | (rw [q1, q2]; rfl) | simp_all) ?_
      (conv => whnf)
      refine V.st ?_
      refine And.intro (fun q1 q2 => by first | (rw [q1, q2]; rfl) | simp_all) ?_
      (conv => whnf)
      refine V.st ?_
      refine Cnd.split (CondB.mk (fun g3 => ?_) (fun g3 => ?_))
      · simp at g3
        omega
      (conv => whnf)
      refine V.st ?_
      exact ⟨2, by omega, by omega, V.wk⟩
    · rw [e] at k9
      clear e b1 b2
      (conv => whnf)
      (try simp only [hp, hq, hp2, hq2])
      repeat (first | (refine V.s1 ?_; (try simp only [hp, hq, hp2, hq2])) | ((with_reducible refine recheck_and ?_ ?_); (focus ((conv => whnf); (try simp only [hp, hq, hp2, hq2]); (repeat (refine V.s1 ?_; (try simp only [hp, hq, hp2, hq2]))); exact ⟨rfl⟩)); (conv => whnf); (try simp only [hp, hq, hp2, hq2])) | ((try ((with_reducible refine .ext ?_); (conv => whnf); (try simp only [hp, hq, hp2, hq2]))); (with_reducible refine call_intro (r := ?_) ?_ ?_); rotate_left; (focus (first | exact (k1) | exact (k2) | exact (k3) | exact (k4) | exact (k5) | exact (k6) | exact (k7))); (conv => whnf); (try simp only [hp, hq, hp2, hq2])))
      refine Cnd.split (CondB.mk (fun g1 => ?_) (fun g1 => ?_))
      · simp at g1
      (conv => whnf)
      refine V.st ?_
      repeat ((try ((with_reducible refine .ext ?_); (conv => whnf))); (with_reducible refine call_intro (r := ?_) ?_ ?_); rotate_left; (focus (first | exact (k8) | exact (k9) | exact (i1) | exact (i2))); (conv => whnf); refine V.st ?_)
      refine ⟨.bool false, fun h => by simp at h, ?_⟩
      (conv => whnf)
      refine V.st ?_
      refine ⟨.bool false, fun h => by simp at h, ?_⟩
      (conv => whnf)
      refine V.st ?_
      refine Cnd.split (CondB.mk (fun g2 => ?_) (fun g2 => ?_))
      · simp at g2
      (conv => whnf)
      refine V.st ?_
      repeat ((try ((with_reducible refine .ext ?_); (conv => whnf))); (with_reducible refine call_intro (r := ?_) ?_ ?_); rotate_left; (focus (first | exact (k10) | exact (ks))); (conv => whnf); refine V.st ?_)
      refine And.intro (fun q1 q2 => by first | (rw [q1, q2]; rfl) | simp_all) ?_
      (conv => whnf)
      refine V.st ?_
      refine And.intro (fun q1 q2 => by first | (rw [q1, q2]; rfl) | simp_all) ?_
      (conv => whnf)
      refine V.st ?_
      refine Cnd.split (CondB.mk (fun g3 => ?_) (fun g3 => ?_))
      · simp at g3
        omega
      (conv => whnf)
      refine V.st ?_
      exact ⟨2, by omega, by omega, V.wk⟩
  · subst e
    (conv => whnf)
    refine V.st ?_
    obtain ⟨p, hp⟩ : ∃ p, bnL a = p := ⟨_, rfl⟩
    obtain ⟨q, hq⟩ : ∃ p, bnH a w = p := ⟨_, rfl⟩
    obtain ⟨p2, hp2⟩ : ∃ p, unL a2 = p := ⟨_, rfl⟩
    obtain ⟨q2, hq2⟩ : ∃ p, unH a2 w2 = p := ⟨_, rfl⟩
    have v1 : vb p q = true := by rw [← hp, ← hq]; exact bn_vb a w hw.1
    have v2 : vb p2 q2 = true := by rw [← hp2, ← hq2]; exact un_vb a2 w2
    have b1 := vb_iff.1 v1
    have b2 := vb_iff.1 v2
    have k1 := add_b p q p2 q2
    have k2 := add_b p2 q2 p q
    have k3 := mul_b p q p2 q2
    have k4 := mul_b p2 q2 p q
    have k5 := neg_b p2 q2
    have k6 := sub_b p q p2 q2
    have v3 : vb (0 - q2) (0 - p2) = true := vb_iff.2 (by omega)
    have k7 := add_b p q (0 - q2) (0 - p2)
    have k8 := hull_b p q p2 q2
    have k9 := meet_b p q p2 q2
    have k10 := cmp_b p q p2 q2
    rw [if_pos ⟨v1, v2⟩] at k1 k3 k6 k8 k9 k10
    rw [if_pos ⟨v2, v1⟩] at k2 k4
    rw [if_pos v2, mk_ok (vb_iff.1 v3)] at k5
    rw [if_pos ⟨v1, v3⟩] at k7
    rw [Int.add_comm p2 p, Int.add_comm q2 q] at k2
    rw [mulR_comm] at k4
    rw [show p + (0 - q2) = p - q2 by omega, show q + (0 - p2) = q - p2 by omega] at k7
    rw [hull_R b1.2.1 b2.2.1] at k8
    have i1 : Called Tryz.prog 26 [bA p q, bA (min p p2) (max q q2)] (.bool true) := inside_yes (by omega) (by omega)
    have i2 : Called Tryz.prog 26 [bA p2 q2, bA (min p p2) (max q q2)] (.bool true) := inside_yes (by omega) (by omega)
    obtain ⟨d1, d2, j, sg, ed, ks, hj⟩ := diff_R (p := p) (q := q) (p2 := p2) (q2 := q2) b1.2.1 b2.2.1
    rw [ed] at k6 k7
    have hm := meet_R (p := p) (q := q) (p2 := p2) (q2 := q2) b1.2.1 b2.2.1
    generalize cmpB p q p2 q2 = o at *
    generalize min p p2 = h1 at *
    generalize max q q2 = h2 at *
    generalize mk (p + p2) (q + q2) = r1 at *
    generalize mulR p q p2 q2 = r2 at *
    clear v1 v2 v3 ed
    rcases hm with ⟨x, y, e, m1, m2, m3, m4, m5, m6⟩ | ⟨e, m5⟩
    · rw [e] at k9
      have i3 := inside_yes m1 m2
      have i4 := inside_yes m3 m4
      clear m1 m2 m3 m4 e b1 b2
      (conv => whnf)
      (try simp only [hp, hq, hp2, hq2])
      repeat (first | (refine V.s1 ?_; (try simp only [hp, hq, hp2, hq2])) | ((with_reducible refine recheck_and ?_ ?_); (focus ((conv => whnf); (try simp only [hp, hq, hp2, hq2]); (repeat (refine V.s1 ?_; (try simp only [hp, hq, hp2, hq2]))); exact ⟨rfl⟩)); (conv => whnf); (try simp only [hp, hq, hp2, hq2])) | ((try ((with_reducible refine .ext ?_); (conv => whnf); (try simp only [hp, hq, hp2, hq2]))); (with_reducible refine call_intro (r := ?_) ?_ ?_); rotate_left; (focus (first | exact (k1) | exact (k2) | exact (k3) | exact (k4) | exact (k5) | exact (k6) | exact (k7))); (conv => whnf); (try simp only [hp, hq, hp2, hq2])))
      refine Cnd.split (CondB.mk (fun g1 => ?_) (fun g1 => ?_))
      · simp at g1
      (conv => whnf)
      refine V.st ?_
      repeat ((try ((with_reducible refine .ext ?_); (conv => whnf))); (with_reducible refine call_intro (r := ?_) ?_ ?_); rotate_left; (focus (first | exact (k8) | exact (k9) | exact (i1) | exact (i2) | exact (i3) | exact (i4))); (conv => whnf); refine V.st ?_)
      refine Cnd.split (CondB.mk (fun g2 => ?_) (fun g2 => ?_))
      · simp at g2
      (conv => whnf)
      refine V.st ?_
      repeat ((try ((with_reducible refine .ext ?_); (conv => whnf))); (with_reducible refine call_intro (r := ?_) ?_ ?_); rotate_left; (focus (first | exact (k10) | exact (ks))); (conv => whnf); refine V.st ?_)
      refine And.intro (fun q1 q2 => by first | (rw [q1, q2]; rfl) | simp_all) ?_
      (conv => whnf)
      refine V.st ?_
      refine And.intro (fun q1 q2 => by first | (rw [q1, q2]; rfl) | simp_all) ?_
      (conv => whnf)
      refine V.st ?_
      refine Cnd.split (CondB.mk (fun g3 => ?_) (fun g3 => ?_))
      · simp at g3
        omega
      (conv => whnf)
      refine V.st ?_
      exact ⟨3, by omega, by omega, V.wk⟩
    · rw [e] at k9
      clear e b1 b2
      (conv => whnf)
      (try simp only [hp, hq, hp2, hq2])
      repeat (first | (refine V.s1 ?_; (try simp only [hp, hq, hp2, hq2])) | ((with_reducible refine recheck_and ?_ ?_); (focus ((conv => whnf); (try simp only [hp, hq, hp2, hq2]); (repeat (refine V.s1 ?_; (try simp only [hp, hq, hp2, hq2]))); exact ⟨rfl⟩)); (conv => whnf); (try simp only [hp, hq, hp2, hq2])) | ((try ((with_reducible refine .ext ?_); (conv => whnf); (try simp only [hp, hq, hp2, hq2]))); (with_reducible refine call_intro (r := ?_) ?_ ?_); rotate_left; (focus (first | exact (k1) | exact (k2) | exact (k3) | exact (k4) | exact (k5) | exact (k6) | exact (k7))); (conv => whnf); (try simp only [hp, hq, hp2, hq2])))
      refine Cnd.split (CondB.mk (fun g1 => ?_) (fun g1 => ?_))
      · simp at g1
      (conv => whnf)
      refine V.st ?_
      repeat ((try ((with_reducible refine .ext ?_); (conv => whnf))); (with_reducible refine call_intro (r := ?_) ?_ ?_); rotate_left; (focus (first | exact (k8) | exact (k9) | exact (i1) | exact (i2))); (conv => whnf); refine V.st ?_)
      refine ⟨.bool false, fun h => by simp at h, ?_⟩
      (conv => whnf)
      refine V.st ?_
      refine ⟨.bool false, fun h => by simp at h, ?_⟩
      (conv => whnf)
      refine V.st ?_
      refine Cnd.split (CondB.mk (fun g2 => ?_) (fun g2 => ?_))
      · simp at g2
      (conv => whnf)
      refine V.st ?_
      repeat ((try ((with_reducible refine .ext ?_); (conv => whnf))); (with_reducible refine call_intro (r := ?_) ?_ ?_); rotate_left; (focus (first | exact (k10) | exact (ks))); (conv => whnf); refine V.st ?_)
      refine And.intro (fun q1 q2 => by first | (rw [q1, q2]; rfl) | simp_all) ?_
      (conv => whnf)
      refine V.st ?_
      refine And.intro (fun q1 q2 => by first | (rw [q1, q2]; rfl) | simp_all) ?_
      (conv => whnf)
      refine V.st ?_
      refine Cnd.split (CondB.mk (fun g3 => ?_) (fun g3 => ?_))
      · simp at g3
        omega
      (conv => whnf)
      refine V.st ?_
      exact ⟨3, by omega, by omega, V.wk⟩
  · subst e
    (conv => whnf)
    refine V.st ?_
    exact Fin.of rfl
end Go.Proofs.YtoiaoofgnnhocaaGreatDoor
end
