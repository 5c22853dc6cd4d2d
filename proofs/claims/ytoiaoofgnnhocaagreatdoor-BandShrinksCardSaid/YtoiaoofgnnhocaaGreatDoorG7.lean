/- What some functions of the program answer at values that mean given lists, texts and numbers, each proved of the program's own code: part 7 of 7. Conditions: those that each theorem names. -/
import Derived.Test.YtoiaoofgnnhocaaGreatDoorG6
set_option linter.unusedSimpArgs false
set_option linter.unusedVariables false
section
/-! smaller bands have smaller results: plain laws -/
set_option linter.unusedSimpArgs false
set_option linter.unusedVariables false
set_option maxHeartbeats 8000000
set_option maxRecDepth 100000
namespace Go.Proofs.YtoiaoofgnnhocaaGreatDoor
open Go Go.V Go.Nb
theorem corner_lo {p q p2 q2 x y : Int} (hx : p ≤ x ∧ x ≤ q) (hy : p2 ≤ y ∧ y ≤ q2) : p * p2 ≤ x * y ∨ p * q2 ≤ x * y ∨ q * p2 ≤ x * y ∨ q * q2 ≤ x * y := by
  rcases Int.le_total 0 y with h | h
  · have h1 : p * y ≤ x * y := Int.mul_le_mul_of_nonneg_right hx.1 h
    rcases Int.le_total 0 p with g | g
    · have h2 : p * p2 ≤ p * y := Int.mul_le_mul_of_nonneg_left hy.1 g
      omega
    · have h2 : p * q2 ≤ p * y := Int.mul_le_mul_of_nonpos_left g hy.2
      omega
  · have h1 : q * y ≤ x * y := Int.mul_le_mul_of_nonpos_right hx.2 h
    rcases Int.le_total 0 q with g | g
    · have h2 : q * p2 ≤ q * y := Int.mul_le_mul_of_nonneg_left hy.1 g
      omega
    · have h2 : q * q2 ≤ q * y := Int.mul_le_mul_of_nonpos_left g hy.2
      omega
theorem corner_hi {p q p2 q2 x y : Int} (hx : p ≤ x ∧ x ≤ q) (hy : p2 ≤ y ∧ y ≤ q2) : x * y ≤ p * p2 ∨ x * y ≤ p * q2 ∨ x * y ≤ q * p2 ∨ x * y ≤ q * q2 := by
  have h := corner_lo (p := -q) (q := -p) (x := -x) (by omega) hy
  simp only [Int.neg_mul] at h
  omega
theorem mnf {d z a b c e : Int} (hd : 0 < d) (h : a ≤ z ∨ b ≤ z ∨ c ≤ z ∨ e ≤ z) : mn4 (flo a d) (flo b d) (flo c d) (flo e d) ≤ flo z d := by
  unfold mn4
  rcases h with h | h | h | h <;> (have := flo_mono hd h; omega)
theorem mxc {d z a b c e : Int} (hd : 0 < d) (h : z ≤ a ∨ z ≤ b ∨ z ≤ c ∨ z ≤ e) : cei z d ≤ mx4 (cei a d) (cei b d) (cei c d) (cei e d) := by
  unfold mx4
  rcases h with h | h | h | h <;> (have := cei_mono hd h; omega)
theorem mn4_le {m a b c d : Int} (h1 : m ≤ a) (h2 : m ≤ b) (h3 : m ≤ c) (h4 : m ≤ d) : m ≤ mn4 a b c d := by unfold mn4; omega
theorem le_mx4 {m a b c d : Int} (h1 : a ≤ m) (h2 : b ≤ m) (h3 : c ≤ m) (h4 : d ≤ m) : mx4 a b c d ≤ m := by unfold mx4; omega
theorem mn_mx {a b c d a' b' c' d' : Int} (h : a ≤ a') : mn4 a b c d ≤ mx4 a' b' c' d' := by unfold mn4 mx4; omega
/-- what is said of the results on bands and on smaller ones -/
def Shr (r s : Int × Int × Int) : Prop := (∃ x y x' y', r = (x, y, 0) ∧ s = (x', y', 0) ∧ x ≤ x' ∧ y' ≤ y) ∨ r = (0, 0, 6) ∨ r = (0, 0, 7)
theorem shr_mk {p q p' q' : Int} (h1 : p ≤ p') (h2 : q' ≤ q) (h3 : p' ≤ q') : Shr (mk p q) (mk p' q') := by
  by_cases hv : vb p q = true
  · have hb := vb_iff.1 hv
    exact .inl ⟨p, q, p', q', mk_ok hb, mk_ok (by omega), h1, h2⟩
  · refine .inr (.inl ?_)
    unfold mk; rw [if_neg hv]
theorem shr_mul {p q p2 q2 m n m2 n2 : Int} (h1 : p ≤ m) (h2 : m ≤ n) (h3 : n ≤ q) (g1 : p2 ≤ m2) (g2 : m2 ≤ n2) (g3 : n2 ≤ q2) : Shr (mulR p q p2 q2) (mulR m n m2 n2) := by
  unfold mulR
  have lo : ∀ x y, m ≤ x ∧ x ≤ n → m2 ≤ y ∧ y ≤ n2 → mn4 (flo (p * p2) 1000000000000) (flo (p * q2) 1000000000000) (flo (q * p2) 1000000000000) (flo (q * q2) 1000000000000) ≤ flo (x * y) 1000000000000 :=
    fun x y hx hy => mnf (by omega) (corner_lo (by omega) (by omega))
  have hi : ∀ x y, m ≤ x ∧ x ≤ n → m2 ≤ y ∧ y ≤ n2 → cei (x * y) 1000000000000 ≤ mx4 (cei (p * p2) 1000000000000) (cei (p * q2) 1000000000000) (cei (q * p2) 1000000000000) (cei (q * q2) 1000000000000) :=
    fun x y hx hy => mxc (by omega) (corner_hi (by omega) (by omega))
  exact shr_mk (mn4_le (lo _ _ (by omega) (by omega)) (lo _ _ (by omega) (by omega)) (lo _ _ (by omega) (by omega)) (lo _ _ (by omega) (by omega)))
    (le_mx4 (hi _ _ (by omega) (by omega)) (hi _ _ (by omega) (by omega)) (hi _ _ (by omega) (by omega)) (hi _ _ (by omega) (by omega))) (mn_mx (flo_le_cei _ _ (by omega)))
theorem ediv_pos_mono {a y z : Int} (ha : 0 ≤ a) (hy : 0 < y) (hz : y ≤ z) : a / z ≤ a / y := by
  refine (Int.le_ediv_iff_mul_le hy).2 ?_
  have h0 : 0 ≤ a / z := Int.ediv_nonneg ha (by omega)
  have h1 := Int.mul_le_mul_of_nonneg_left hz h0
  have h2 := Int.ediv_mul_le a (b := z) (by omega)
  omega
theorem ediv_neg_mono {a y z : Int} (ha : a ≤ 0) (hy : 0 < y) (hz : y ≤ z) : a / y ≤ a / z := by
  refine (Int.le_ediv_iff_mul_le (by omega)).2 ?_
  have h0 : a / y ≤ 0 := by
    have := Int.ediv_le_ediv hy ha
    simpa using this
  have h1 : a / y * z ≤ a / y * y := Int.mul_le_mul_of_nonpos_left h0 hz
  have h2 := Int.ediv_mul_le a (b := y) (by omega)
  omega
theorem ediv_corner {a z y p2 q2 : Int} (hp : 0 < p2) (haz : a ≤ z) (h1 : p2 ≤ y) (h2 : y ≤ q2) : a / p2 ≤ z / y ∨ a / q2 ≤ z / y := by
  have h3 := Int.ediv_le_ediv (show 0 < y by omega) haz
  rcases Int.le_total 0 a with h | h
  · have := ediv_pos_mono h (show 0 < y by omega) h2
    omega
  · have := ediv_neg_mono h hp h1
    omega
theorem div_lo {p q p2 q2 x y : Int} (hx : p ≤ x ∧ x ≤ q) (hy : p2 ≤ y ∧ y ≤ q2) (hz : 0 < p2 ∨ q2 < 0) : flo (p * 1000000000000) p2 ≤ flo (x * 1000000000000) y ∨ flo (p * 1000000000000) q2 ≤ flo (x * 1000000000000) y ∨ flo (q * 1000000000000) p2 ≤ flo (x * 1000000000000) y ∨ flo (q * 1000000000000) q2 ≤ flo (x * 1000000000000) y := by
  unfold flo
  rcases hz with hz | hz
  · rw [if_pos hz, if_pos (show 0 < y by omega), if_pos (show 0 < q2 by omega)]
    have := ediv_corner hz (show p * 1000000000000 ≤ x * 1000000000000 by omega) hy.1 hy.2
    omega
  · rw [if_neg (show ¬ 0 < p2 by omega), if_neg (show ¬ 0 < y by omega), if_neg (show ¬ 0 < q2 by omega)]
    have := ediv_corner (p2 := -q2) (q2 := -p2) (y := -y) (by omega) (show -(q * 1000000000000) ≤ -(x * 1000000000000) by omega) (by omega) (by omega)
    rw [if_neg (show ¬ 0 < p2 by omega)]
    omega
theorem div_hi {p q p2 q2 x y : Int} (hx : p ≤ x ∧ x ≤ q) (hy : p2 ≤ y ∧ y ≤ q2) (hz : 0 < p2 ∨ q2 < 0) : cei (x * 1000000000000) y ≤ cei (p * 1000000000000) p2 ∨ cei (x * 1000000000000) y ≤ cei (p * 1000000000000) q2 ∨ cei (x * 1000000000000) y ≤ cei (q * 1000000000000) p2 ∨ cei (x * 1000000000000) y ≤ cei (q * 1000000000000) q2 := by
  have h := div_lo (p := -q) (q := -p) (x := -x) (by omega) hy hz
  unfold cei
  simp only [Int.neg_mul] at h
  omega
theorem shr_div {p q p2 q2 m n m2 n2 : Int} (h1 : p ≤ m) (h2 : m ≤ n) (h3 : n ≤ q) (g1 : p2 ≤ m2) (g2 : m2 ≤ n2) (g3 : n2 ≤ q2) : Shr (if p2 ≤ 0 ∧ 0 ≤ q2 then (0, 0, 7) else divR p q p2 q2) (if m2 ≤ 0 ∧ 0 ≤ n2 then (0, 0, 7) else divR m n m2 n2) := by
  by_cases hz : p2 ≤ 0 ∧ 0 ≤ q2
  · rw [if_pos hz]; exact .inr (.inr rfl)
  · rw [if_neg hz, if_neg (by omega)]
    unfold divR
    have lo : ∀ x y, m ≤ x ∧ x ≤ n → m2 ≤ y ∧ y ≤ n2 → mn4 (flo (p * 1000000000000) p2) (flo (p * 1000000000000) q2) (flo (q * 1000000000000) p2) (flo (q * 1000000000000) q2) ≤ flo (x * 1000000000000) y :=
      fun x y hx hy => by
        have := div_lo (p := p) (q := q) (p2 := p2) (q2 := q2) (x := x) (y := y) (by omega) (by omega) (by omega)
        unfold mn4; omega
    have hi : ∀ x y, m ≤ x ∧ x ≤ n → m2 ≤ y ∧ y ≤ n2 → cei (x * 1000000000000) y ≤ mx4 (cei (p * 1000000000000) p2) (cei (p * 1000000000000) q2) (cei (q * 1000000000000) p2) (cei (q * 1000000000000) q2) :=
      fun x y hx hy => by
        have := div_hi (p := p) (q := q) (p2 := p2) (q2 := q2) (x := x) (y := y) (by omega) (by omega) (by omega)
        unfold mx4; omega
    exact shr_mk (mn4_le (lo _ _ (by omega) (by omega)) (lo _ _ (by omega) (by omega)) (lo _ _ (by omega) (by omega)) (lo _ _ (by omega) (by omega)))
      (le_mx4 (hi _ _ (by omega) (by omega)) (hi _ _ (by omega) (by omega)) (hi _ _ (by omega) (by omega)) (hi _ _ (by omega) (by omega))) (mn_mx (flo_le_cei _ _ (by omega)))
/-- the choices of two bands, told plainly -/
theorem min_R {p q p2 q2 : Int} (h : p ≤ q) (h2 : p2 ≤ q2) : (if p = p2 ∧ q = q2 then (p, q, (0 : Int)) else if min q q2 < min p p2 then (0, 0, 4) else (min p p2, min q q2, 0)) = (min p p2, min q q2, 0) := by
  by_cases he : p = p2 ∧ q = q2
  · rw [if_pos he, show min p p2 = p by omega, show min q q2 = q by omega]
  · rw [if_neg he, if_neg (by omega)]
theorem max_R {p q p2 q2 : Int} (h : p ≤ q) (h2 : p2 ≤ q2) : (if p = p2 ∧ q = q2 then (p, q, (0 : Int)) else if max q q2 < max p p2 then (0, 0, 4) else (max p p2, max q q2, 0)) = (max p p2, max q q2, 0) := by
  by_cases he : p = p2 ∧ q = q2
  · rw [if_pos he, show max p p2 = p by omega, show max q q2 = q by omega]
  · rw [if_neg he, if_neg (by omega)]
theorem hull_R {p q p2 q2 : Int} (h : p ≤ q) (h2 : p2 ≤ q2) : (if p = p2 ∧ q = q2 then (p, q, (0 : Int)) else if max q q2 < min p p2 then (0, 0, 4) else (min p p2, max q q2, 0)) = (min p p2, max q q2, 0) := by
  by_cases he : p = p2 ∧ q = q2
  · rw [if_pos he, show min p p2 = p by omega, show max q q2 = q by omega]
  · rw [if_neg he, if_neg (by omega)]
end Go.Proofs.YtoiaoofgnnhocaaGreatDoor
end
section
/-! law BandShrinks -/
set_option linter.unusedSimpArgs false
set_option linter.unusedVariables false
set_option maxHeartbeats 8000000
set_option maxRecDepth 100000
namespace Go.Proofs.YtoiaoofgnnhocaaGreatDoor
open Go Go.V Go.Nb
theorem bandShrinks_c (a w a2 w2 l0 l1 l2 l3 : Int) (b0 : 0 ≤ l0 ∧ l0 ≤ 65535) (b1 : 0 ≤ l1 ∧ l1 ≤ 65535) (b2 : 0 ≤ l2 ∧ l2 ≤ 65535) (b3 : 0 ≤ l3 ∧ l3 ≤ 65535) :
    Called Tryz.prog 6 [.agg [.int .i64 a, .int .u32 w], .agg [.int .i64 a2, .int .u32 w2], .iarr .u16 [l0, l1, l2, l3]] (.bool true) := by
  have c0 := works_c
  have c1 := smallD_c a w
  have c2 := smallD_c a2 w2
  have hp := sm_bd a w
  have hq := sm_bd a2 w2
  generalize smL a = p at *
  generalize smH a w = q at *
  generalize smL a2 = p2 at *
  generalize smH a2 w2 = q2 at *
  obtain ⟨m, hm⟩ : ∃ m, min (p + l0) q = m := ⟨_, rfl⟩
  obtain ⟨n, hn⟩ : ∃ n, max (q - l1) m = n := ⟨_, rfl⟩
  obtain ⟨m2, hm2⟩ : ∃ m, min (p2 + l2) q2 = m := ⟨_, rfl⟩
  obtain ⟨n2, hn2⟩ : ∃ n, max (q2 - l3) m2 = n := ⟨_, rfl⟩
  have o1 : p ≤ m ∧ m ≤ n ∧ n ≤ q := by omega
  have o2 : p2 ≤ m2 ∧ m2 ≤ n2 ∧ n2 ≤ q2 := by omega
  have hv : vb p q = true ∧ vb p2 q2 = true := ⟨vb_iff.2 (by omega), vb_iff.2 (by omega)⟩
  have hw : vb m n = true ∧ vb m2 n2 = true := ⟨vb_iff.2 (by omega), vb_iff.2 (by omega)⟩
  have k0 := add_b p q p2 q2
  have j0 := add_b m n m2 n2
  have k1 := sub_b p q p2 q2
  have j1 := sub_b m n m2 n2
  have k2 := mul_b p q p2 q2
  have j2 := mul_b m n m2 n2
  have k3 := div_b p q p2 q2
  have j3 := div_b m n m2 n2
  have k4 := min_b p q p2 q2
  have j4 := min_b m n m2 n2
  have k5 := max_b p q p2 q2
  have j5 := max_b m n m2 n2
  have k6 := hull_b p q p2 q2
  have j6 := hull_b m n m2 n2
  rw [if_pos hv] at k0 k1 k2 k3 k4 k5 k6
  rw [if_pos hw] at j0 j1 j2 j3 j4 j5 j6
  rw [min_R (by omega) (by omega)] at k4 j4
  rw [max_R (by omega) (by omega)] at k5 j5
  rw [hull_R (by omega) (by omega)] at k6 j6
  have S0 : Shr (mk (p + p2) (q + q2)) (mk (m + m2) (n + n2)) := shr_mk (by omega) (by omega) (by omega)
  have S1 : Shr (mk (p - q2) (q - p2)) (mk (m - n2) (n - m2)) := shr_mk (by omega) (by omega) (by omega)
  have S2 := shr_mul (p := p) (q := q) (p2 := p2) (q2 := q2) o1.1 o1.2.1 o1.2.2 o2.1 o2.2.1 o2.2.2
  have S3 := shr_div (p := p) (q := q) (p2 := p2) (q2 := q2) o1.1 o1.2.1 o1.2.2 o2.1 o2.2.1 o2.2.2
  have S4 : Shr (min p p2, min q q2, 0) (min m m2, min n n2, 0) := .inl ⟨_, _, _, _, rfl, rfl, by omega, by omega⟩
  have S5 : Shr (max p p2, max q q2, 0) (max m m2, max n n2, 0) := .inl ⟨_, _, _, _, rfl, rfl, by omega, by omega⟩
  have S6 : Shr (min p p2, max q q2, 0) (min m m2, max n n2, 0) := .inl ⟨_, _, _, _, rfl, rfl, by omega, by omega⟩
  generalize mk (p + p2) (q + q2) = r0 at *
  generalize mk (m + m2) (n + n2) = s0 at *
  generalize mk (p - q2) (q - p2) = r1 at *
  generalize mk (m - n2) (n - m2) = s1 at *
  generalize mulR p q p2 q2 = r2 at *
  generalize mulR m n m2 n2 = s2 at *
  generalize (if p2 ≤ 0 ∧ 0 ≤ q2 then (0, 0, 7) else divR p q p2 q2) = r3 at *
  generalize (if m2 ≤ 0 ∧ 0 ≤ n2 then (0, 0, 7) else divR m n m2 n2) = s3 at *
  generalize (min p p2, min q q2, (0 : Int)) = r4 at *
  generalize (min m m2, min n n2, (0 : Int)) = s4 at *
  generalize (max p p2, max q q2, (0 : Int)) = r5 at *
  generalize (max m m2, max n n2, (0 : Int)) = s5 at *
  generalize (min p p2, max q q2, (0 : Int)) = r6 at *
  generalize (min m m2, max n n2, (0 : Int)) = s6 at *
  refine called_of_run tbOk 6 ⟨Tryz.func6, rfl, rfl, Nat.le_of_ble_eq_true rfl⟩ ?_
  (conv => whnf)
  refine V.st ?_
  repeat ((try ((with_reducible refine .ext ?_); (conv => whnf))); (with_reducible refine call_intro (r := ?_) ?_ ?_); rotate_left; (focus (first | exact (c0))); (conv => whnf); refine V.st ?_)
  refine ⟨(.take 0 (.take 2 (.ev (.cons 1 [2] (.ev (.cons 3 [] (.ev (.cons 4 [] (.ev (.cons 5 [] (.ev (.cons 6 [] (.ev (.cons 7 [] (.done) (.nil))) (.nil))) (.nil))) (.cons 5 [] (.ev (.cons 4 [] (.ev (.cons 6 [] (.ev (.cons 7 [] (.done) (.nil))) (.nil))) (.nil))) (.nil)))) (.cons 4 [2] (.ev (.cons 3 [] (.ev (.cons 5 [] (.ev (.cons 6 [] (.ev (.cons 7 [] (.done) (.nil))) (.nil))) (.nil))) (.cons 5 [2] (.ev (.cons 3 [] (.ev (.cons 6 [] (.ev (.cons 7 [] (.done) (.nil))) (.nil))) (.nil))) (.nil)))) (.cons 5 [2] (.ev (.cons 3 [] (.ev (.cons 4 [] (.ev (.cons 6 [] (.ev (.cons 7 [] (.done) (.nil))) (.nil))) (.nil))) (.cons 4 [2] (.ev (.cons 3 [] (.ev (.cons 6 [] (.ev (.cons 7 [] (.done) (.nil))) (.nil))) (.nil))) (.nil)))) (.nil))))) (.cons 4 [2, 0] (.ev (.cons 1 [2] (.ev (.cons 3 [] (.ev (.cons 5 [] (.ev (.cons 6 [] (.ev (.cons 7 [] (.done) (.nil))) (.nil))) (.nil))) (.cons 5 [2] (.ev (.cons 3 [] (.ev (.cons 6 [] (.ev (.cons 7 [] (.done) (.nil))) (.nil))) (.nil))) (.nil)))) (.cons 5 [2, 0] (.ev (.cons 1 [2] (.ev (.cons 3 [] (.ev (.cons 6 [] (.ev (.cons 7 [] (.done) (.nil))) (.nil))) (.nil))) (.nil))) (.nil)))) (.cons 5 [2, 0] (.ev (.cons 1 [2] (.ev (.cons 3 [] (.ev (.cons 4 [] (.ev (.cons 6 [] (.ev (.cons 7 [] (.done) (.nil))) (.nil))) (.nil))) (.cons 4 [2] (.ev (.cons 3 [] (.ev (.cons 6 [] (.ev (.cons 7 [] (.done) (.nil))) (.nil))) (.nil))) (.nil)))) (.cons 4 [2, 0] (.ev (.cons 1 [2] (.ev (.cons 3 [] (.ev (.cons 6 [] (.ev (.cons 7 [] (.done) (.nil))) (.nil))) (.nil))) (.nil))) (.nil)))) (.nil))))))), ⟨by kernel_rfl, by kernel_rfl, by kernel_rfl⟩, ?_⟩
  refine drw_meet [(7, .box 7 0), (8, .box 8 0)] [(7, .box [.int .i64 p, .int .i64 q]), (8, .box [.int .i64 p2, .int .i64 q2])] ?_ ?_
  · (conv => whnf); (try simp only [Nat.zero_add])
    repeat' (first | exact V.wk | (refine V.s1 ?_; (try simp only [Nat.zero_add])) | ((with_reducible refine recheck_and ?_ ?_); (focus ((conv => whnf); (try simp only [Nat.zero_add]); (repeat (refine V.s1 ?_; (try simp only [Nat.zero_add]))); exact ⟨rfl⟩)); (conv => whnf); (try simp only [Nat.zero_add])) | ((try ((with_reducible refine .ext ?_); (conv => whnf); (try simp only [Nat.zero_add]))); (with_reducible refine call_intro (r := ?_) ?_ ?_); rotate_left; (focus (first | exact (c1) | exact (c2))); (conv => whnf); (try simp only [Nat.zero_add])) | (refine And.intro ?_ ?_ <;> (conv => whnf); (try simp only [Nat.zero_add])))
  (conv => whnf)
  refine V.st ?_
  refine ⟨(.take 0 (.take 1 (.ev (.cons 2 [1, 0] (.ev (.cons 3 [1, 0] (.ev (.cons 4 [1] (.ev (.cons 5 [] (.done) (.nil))) (.nil))) (.nil))) (.cons 3 [1, 0] (.ev (.cons 2 [1, 0] (.ev (.cons 4 [1] (.ev (.cons 5 [] (.done) (.nil))) (.nil))) (.nil))) (.nil)))))), ⟨by kernel_rfl, by kernel_rfl, by kernel_rfl⟩, ?_⟩
  refine drw_meet [(9, .box 9 0), (10, .box 10 0)] [(9, .box [.int .i64 p, .int .i64 q]), (10, .box [.int .i64 p2, .int .i64 q2])] ?_ ?_
  · (conv => whnf); (try simp only [Nat.zero_add])
    repeat' (first | exact V.wk | (refine V.s1 ?_; (try simp only [Nat.zero_add])) | ((with_reducible refine recheck_and ?_ ?_); (focus ((conv => whnf); (try simp only [Nat.zero_add]); (repeat (refine V.s1 ?_; (try simp only [Nat.zero_add]))); exact ⟨rfl⟩)); (conv => whnf); (try simp only [Nat.zero_add])) | ((try ((with_reducible refine .ext ?_); (conv => whnf); (try simp only [Nat.zero_add]))); (with_reducible refine call_intro (r := ?_) ?_ ?_); rotate_left; (focus (first | fail)); (conv => whnf); (try simp only [Nat.zero_add])) | (refine And.intro ?_ ?_ <;> (conv => whnf); (try simp only [Nat.zero_add])))
  have d0 : [l0, l1, l2, l3].getD (0 : Int).toNat 0 = l0 := rfl
  have d1 : [l0, l1, l2, l3].getD (1 : Int).toNat 0 = l1 := rfl
  have d2 : [l0, l1, l2, l3].getD (2 : Int).toNat 0 = l2 := rfl
  have d3 : [l0, l1, l2, l3].getD (3 : Int).toNat 0 = l3 := rfl
  (conv => whnf)
  (try simp only [Nat.zero_add, d0, d1, d2, d3, hm, hn, hm2, hn2])
  repeat (first | (refine V.s1 ?_; (try simp only [Nat.zero_add, d0, d1, d2, d3, hm, hn, hm2, hn2])) | ((with_reducible refine recheck_and ?_ ?_); (focus ((conv => whnf); (try simp only [Nat.zero_add, d0, d1, d2, d3, hm, hn, hm2, hn2]); (repeat (refine V.s1 ?_; (try simp only [Nat.zero_add, d0, d1, d2, d3, hm, hn, hm2, hn2]))); exact ⟨rfl⟩)); (conv => whnf); (try simp only [Nat.zero_add, d0, d1, d2, d3, hm, hn, hm2, hn2])))
  refine lp_any (0 : Nat) (fun k => k ≤ 7) (fun k => 7 - k) (fun k => [(66, .int .i64 k)]) (fun _ => []) ?_ ?_ ?_
  · exact V.wk
  · exact Nat.zero_le _
  intro k hk
  clear d0 d1 d2 d3 hm hn hm2 hn2 hv hw c0 c1 c2 hp hq
  rcases (by omega : k = 0 ∨ k = 1 ∨ k = 2 ∨ k = 3 ∨ k = 4 ∨ k = 5 ∨ k = 6 ∨ k = 7) with e | e | e | e | e | e | e | e
  · subst e
    (conv => whnf)
    refine V.st ?_
    rcases S0 with ⟨x, y, x', y', e1, e2, h1, h2⟩ | e1 | e1
    · rw [e1] at k0
      rw [e2] at j0
      have hi := inside_yes h1 h2
      (conv => whnf)
      refine V.st ?_
      repeat ((try ((with_reducible refine .ext ?_); (conv => whnf))); (with_reducible refine call_intro (r := ?_) ?_ ?_); rotate_left; (focus (first | exact (k0) | exact (j0) | exact (hi))); (conv => whnf); refine V.st ?_)
      refine Cnd.split (CondB.mk (fun g => ?_) (fun g => ?_))
      · simp at g
      · (conv => whnf)
        refine V.st ?_
        exact ⟨1, by omega, by omega, V.wk⟩
    · rw [e1] at k0
      (conv => whnf)
      refine V.st ?_
      repeat ((try ((with_reducible refine .ext ?_); (conv => whnf))); (with_reducible refine call_intro (r := ?_) ?_ ?_); rotate_left; (focus (first | exact (k0) | exact (j0))); (conv => whnf); refine V.st ?_)
      refine ⟨.bool false, fun h => by simp at h, ?_⟩
      (conv => whnf)
      refine V.st ?_
      refine Cnd.split (CondB.mk (fun g => ?_) (fun g => ?_))
      · simp at g
      · (conv => whnf)
        refine V.st ?_
        exact ⟨1, by omega, by omega, V.wk⟩
    · rw [e1] at k0
      (conv => whnf)
      refine V.st ?_
      repeat ((try ((with_reducible refine .ext ?_); (conv => whnf))); (with_reducible refine call_intro (r := ?_) ?_ ?_); rotate_left; (focus (first | exact (k0) | exact (j0))); (conv => whnf); refine V.st ?_)
      refine ⟨.bool false, fun h => by simp at h, ?_⟩
      (conv => whnf)
      refine V.st ?_
      refine Cnd.split (CondB.mk (fun g => ?_) (fun g => ?_))
      · simp at g
      · (conv => whnf)
        refine V.st ?_
        exact ⟨1, by omega, by omega, V.wk⟩
  · subst e
    (conv => whnf)
    refine V.st ?_
    rcases S1 with ⟨x, y, x', y', e1, e2, h1, h2⟩ | e1 | e1
    · rw [e1] at k1
      rw [e2] at j1
      have hi := inside_yes h1 h2
      (conv => whnf)
      refine V.st ?_
      repeat ((try ((with_reducible refine .ext ?_); (conv => whnf))); (with_reducible refine call_intro (r := ?_) ?_ ?_); rotate_left; (focus (first | exact (k1) | exact (j1) | exact (hi))); (conv => whnf); refine V.st ?_)
      refine Cnd.split (CondB.mk (fun g => ?_) (fun g => ?_))
      · simp at g
      · (conv => whnf)
        refine V.st ?_
        exact ⟨2, by omega, by omega, V.wk⟩
    · rw [e1] at k1
      (conv => whnf)
      refine V.st ?_
      repeat ((try ((with_reducible refine .ext ?_); (conv => whnf))); (with_reducible refine call_intro (r := ?_) ?_ ?_); rotate_left; (focus (first | exact (k1) | exact (j1))); (conv => whnf); refine V.st ?_)
      refine ⟨.bool false, fun h => by simp at h, ?_⟩
      (conv => whnf)
      refine V.st ?_
      refine Cnd.split (CondB.mk (fun g => ?_) (fun g => ?_))
      · simp at g
      · (conv => whnf)
        refine V.st ?_
        exact ⟨2, by omega, by omega, V.wk⟩
    · rw [e1] at k1
      (conv => whnf)
      refine V.st ?_
      repeat ((try ((with_reducible refine .ext ?_); (conv => whnf))); (with_reducible refine call_intro (r := ?_) ?_ ?_); rotate_left; (focus (first | exact (k1) | exact (j1))); (conv => whnf); refine V.st ?_)
      refine ⟨.bool false, fun h => by simp at h, ?_⟩
      (conv => whnf)
      refine V.st ?_
      refine Cnd.split (CondB.mk (fun g => ?_) (fun g => ?_))
      · simp at g
      · (conv => whnf)
        refine V.st ?_
        exact ⟨2, by omega, by omega, V.wk⟩
  · subst e
    (conv => whnf)
    refine V.st ?_
    rcases S2 with ⟨x, y, x', y', e1, e2, h1, h2⟩ | e1 | e1
    · rw [e1] at k2
      rw [e2] at j2
      have hi := inside_yes h1 h2
      (conv => whnf)
      refine V.st ?_
      repeat ((try ((with_reducible refine .ext ?_); (conv => whnf))); (with_reducible refine call_intro (r := ?_) ?_ ?_); rotate_left; (focus (first | exact (k2) | exact (j2) | exact (hi))); (conv => whnf); refine V.st ?_)
      refine Cnd.split (CondB.mk (fun g => ?_) (fun g => ?_))
      · simp at g
      · (conv => whnf)
        refine V.st ?_
        exact ⟨3, by omega, by omega, V.wk⟩
    · rw [e1] at k2
      (conv => whnf)
      refine V.st ?_
      repeat ((try ((with_reducible refine .ext ?_); (conv => whnf))); (with_reducible refine call_intro (r := ?_) ?_ ?_); rotate_left; (focus (first | exact (k2) | exact (j2))); (conv => whnf); refine V.st ?_)
      refine ⟨.bool false, fun h => by simp at h, ?_⟩
      (conv => whnf)
      refine V.st ?_
      refine Cnd.split (CondB.mk (fun g => ?_) (fun g => ?_))
      · simp at g
      · (conv => whnf)
        refine V.st ?_
        exact ⟨3, by omega, by omega, V.wk⟩
    · rw [e1] at k2
      (conv => whnf)
      refine V.st ?_
      repeat ((try ((with_reducible refine .ext ?_); (conv => whnf))); (with_reducible refine call_intro (r := ?_) ?_ ?_); rotate_left; (focus (first | exact (k2) | exact (j2))); (conv => whnf); refine V.st ?_)
      refine ⟨.bool false, fun h => by simp at h, ?_⟩
      (conv => whnf)
      refine V.st ?_
      refine Cnd.split (CondB.mk (fun g => ?_) (fun g => ?_))
      · simp at g
      · (conv => whnf)
        refine V.st ?_
        exact ⟨3, by omega, by omega, V.wk⟩
  · subst e
    (conv => whnf)
    refine V.st ?_
    rcases S3 with ⟨x, y, x', y', e1, e2, h1, h2⟩ | e1 | e1
    · rw [e1] at k3
      rw [e2] at j3
      have hi := inside_yes h1 h2
      (conv => whnf)
      refine V.st ?_
      repeat ((try ((with_reducible refine .ext ?_); (conv => whnf))); (with_reducible refine call_intro (r := ?_) ?_ ?_); rotate_left; (focus (first | exact (k3) | exact (j3) | exact (hi))); (conv => whnf); refine V.st ?_)
      refine Cnd.split (CondB.mk (fun g => ?_) (fun g => ?_))
      · simp at g
      · (conv => whnf)
        refine V.st ?_
        exact ⟨4, by omega, by omega, V.wk⟩
    · rw [e1] at k3
      (conv => whnf)
      refine V.st ?_
      repeat ((try ((with_reducible refine .ext ?_); (conv => whnf))); (with_reducible refine call_intro (r := ?_) ?_ ?_); rotate_left; (focus (first | exact (k3) | exact (j3))); (conv => whnf); refine V.st ?_)
      refine ⟨.bool false, fun h => by simp at h, ?_⟩
      (conv => whnf)
      refine V.st ?_
      refine Cnd.split (CondB.mk (fun g => ?_) (fun g => ?_))
      · simp at g
      · (conv => whnf)
        refine V.st ?_
        exact ⟨4, by omega, by omega, V.wk⟩
    · rw [e1] at k3
      (conv => whnf)
      refine V.st ?_
      repeat ((try ((with_reducible refine .ext ?_); (conv => whnf))); (with_reducible refine call_intro (r := ?_) ?_ ?_); rotate_left; (focus (first | exact (k3) | exact (j3))); (conv => whnf); refine V.st ?_)
      refine ⟨.bool false, fun h => by simp at h, ?_⟩
      (conv => whnf)
      refine V.st ?_
      refine Cnd.split (CondB.mk (fun g => ?_) (fun g => ?_))
      · simp at g
      · (conv => whnf)
        refine V.st ?_
        exact ⟨4, by omega, by omega, V.wk⟩
  · subst e
    (conv => whnf)
    refine V.st ?_
    rcases S4 with ⟨x, y, x', y', e1, e2, h1, h2⟩ | e1 | e1
    · rw [e1] at k4
      rw [e2] at j4
      have hi := inside_yes h1 h2
      (conv => whnf)
      refine V.st ?_
      repeat ((try ((with_reducible refine .ext ?_); (conv => whnf))); (with_reducible refine call_intro (r := ?_) ?_ ?_); rotate_left; (focus (first | exact (k4) | exact (j4) | exact (hi))); (conv => whnf); refine V.st ?_)
      refine Cnd.split (CondB.mk (fun g => ?_) (fun g => ?_))
      · simp at g
      · (conv => whnf)
        refine V.st ?_
        exact ⟨5, by omega, by omega, V.wk⟩
    · rw [e1] at k4
      (conv => whnf)
      refine V.st ?_
      repeat ((try ((with_reducible refine .ext ?_); (conv => whnf))); (with_reducible refine call_intro (r := ?_) ?_ ?_); rotate_left; (focus (first | exact (k4) | exact (j4))); (conv => whnf); refine V.st ?_)
      refine ⟨.bool false, fun h => by simp at h, ?_⟩
      (conv => whnf)
      refine V.st ?_
      refine Cnd.split (CondB.mk (fun g => ?_) (fun g => ?_))
      · simp at g
      · (conv => whnf)
        refine V.st ?_
        exact ⟨5, by omega, by omega, V.wk⟩
    · rw [e1] at k4
      (conv => whnf)
      refine V.st ?_
      repeat ((try ((with_reducible refine .ext ?_); (conv => whnf))); (with_reducible refine call_intro (r := ?_) ?_ ?_); rotate_left; (focus (first | exact (k4) | exact (j4))); (conv => whnf); refine V.st ?_)
      refine ⟨.bool false, fun h => by simp at h, ?_⟩
      (conv => whnf)
      refine V.st ?_
      refine Cnd.split (CondB.mk (fun g => ?_) (fun g => ?_))
      · simp at g
      · (conv => whnf)
        refine V.st ?_
        exact ⟨5, by omega, by omega, V.wk⟩
  · subst e
    (conv => whnf)
    refine V.st ?_
    rcases S5 with ⟨x, y, x', y', e1, e2, h1, h2⟩ | e1 | e1
    · rw [e1] at k5
      rw [e2] at j5
      have hi := inside_yes h1 h2
      (conv => whnf)
      refine V.st ?_
      repeat ((try ((with_reducible refine .ext ?_); (conv => whnf))); (with_reducible refine call_intro (r := ?_) ?_ ?_); rotate_left; (focus (first | exact (k5) | exact (j5) | exact (hi))); (conv => whnf); refine V.st ?_)
      refine Cnd.split (CondB.mk (fun g => ?_) (fun g => ?_))
      · simp at g
      · (conv => whnf)
        refine V.st ?_
        exact ⟨6, by omega, by omega, V.wk⟩
    · rw [e1] at k5
      (conv => whnf)
      refine V.st ?_
      repeat ((try ((with_reducible refine .ext ?_); (conv => whnf))); (with_reducible refine call_intro (r := ?_) ?_ ?_); rotate_left; (focus (first | exact (k5) | exact (j5))); (conv => whnf); refine V.st ?_)
      refine ⟨.bool false, fun h => by simp at h, ?_⟩
      (conv => whnf)
      refine V.st ?_
      refine Cnd.split (CondB.mk (fun g => ?_) (fun g => ?_))
      · simp at g
      · (conv => whnf)
        refine V.st ?_
        exact ⟨6, by omega, by omega, V.wk⟩
    · rw [e1] at k5
      (conv => whnf)
      refine V.st ?_
      repeat ((try ((with_reducible refine .ext ?_); (conv => whnf))); (with_reducible refine call_intro (r := ?_) ?_ ?_); rotate_left; (focus (first | exact (k5) | exact (j5))); (conv => whnf); refine V.st ?_)
      refine ⟨.bool false, fun h => by simp at h, ?_⟩
      (conv => whnf)
      refine V.st ?_
      refine Cnd.split (CondB.mk (fun g => ?_) (fun g => ?_))
      · simp at g
      · (conv => whnf)
        refine V.st ?_
        exact ⟨6, by omega, by omega, V.wk⟩
  · subst e
    (conv => whnf)
    refine V.st ?_
    rcases S6 with ⟨x, y, x', y', e1, e2, h1, h2⟩ | e1 | e1
    · rw [e1] at k6
      rw [e2] at j6
      have hi := inside_yes h1 h2
      (conv => whnf)
      refine V.st ?_
      repeat ((try ((with_reducible refine .ext ?_); (conv => whnf))); (with_reducible refine call_intro (r := ?_) ?_ ?_); rotate_left; (focus (first | exact (k6) | exact (j6) | exact (hi))); (conv => whnf); refine V.st ?_)
      refine Cnd.split (CondB.mk (fun g => ?_) (fun g => ?_))
      · simp at g
      · (conv => whnf)
        refine V.st ?_
        exact ⟨7, by omega, by omega, V.wk⟩
    · rw [e1] at k6
      (conv => whnf)
      refine V.st ?_
      repeat ((try ((with_reducible refine .ext ?_); (conv => whnf))); (with_reducible refine call_intro (r := ?_) ?_ ?_); rotate_left; (focus (first | exact (k6) | exact (j6))); (conv => whnf); refine V.st ?_)
      refine ⟨.bool false, fun h => by simp at h, ?_⟩
      (conv => whnf)
      refine V.st ?_
      refine Cnd.split (CondB.mk (fun g => ?_) (fun g => ?_))
      · simp at g
      · (conv => whnf)
        refine V.st ?_
        exact ⟨7, by omega, by omega, V.wk⟩
    · rw [e1] at k6
      (conv => whnf)
      refine V.st ?_
      repeat ((try ((with_reducible refine .ext ?_); (conv => whnf))); (with_reducible refine call_intro (r := ?_) ?_ ?_); rotate_left; (focus (first | exact (k6) | exact (j6))); (conv => whnf); refine V.st ?_)
      refine ⟨.bool false, fun h => by simp at h, ?_⟩
      (conv => whnf)
      refine V.st ?_
      refine Cnd.split (CondB.mk (fun g => ?_) (fun g => ?_))
      · simp at g
      · (conv => whnf)
        refine V.st ?_
        exact ⟨7, by omega, by omega, V.wk⟩
  · subst e
    (conv => whnf)
    refine V.st ?_
    exact Fin.of rfl
end Go.Proofs.YtoiaoofgnnhocaaGreatDoor
end
