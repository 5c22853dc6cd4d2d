/- What some functions of the program answer at values that mean given lists, texts and numbers, each proved of the program's own code: part 8 of 8. Conditions: those that each theorem names. -/
import Derived.Test.YtplflfnfodghmaaGreatDoorH7
import Derived.Test.YtplflfnfodghmaaGreatDoorH6
set_option linter.unusedSimpArgs false
set_option linter.unusedVariables false
section
/-! frac.Add, Sub, Mul, Div of valid fractions; parts of any length up to 600 digits -/
set_option linter.unusedSimpArgs false
set_option linter.unusedVariables false
set_option maxHeartbeats 8000000
set_option maxRecDepth 100000
namespace Go.Proofs.YtplflfnfodghmaaGreatDoor
open Go Go.V Go.Nb
theorem fadd_ok (s t u v : List UInt8) (h : okP s t = true) (g : okP u v = true) (hn : (mg 1000000000 (qv s t + qv u v).num.natAbs).length ≤ 90000000) (hd : (mg 1000000000 (qv s t + qv u v).den).length ≤ 90000000) : Called Tryz.prog 54 [.agg [.str s, .str t], .agg [.str u, .str v]] (frR (qv s t + qv u v)) := by
  have r1 := read_ok s t h
  have r2 := read_ok u v g
  have o := add_c (qv s t) (qv u v) (qsize h) (qsize g)
  have w := write_c (qv s t + qv u v) hn hd
  generalize qv s t + qv u v = q at *
  have ap : Called Tryz.prog 116 [.agg [.str s, .str t], .agg [.str u, .str v], .fn 117 [] []] (.tup [rtD q, .int .i64 0]) := by
    refine called_of_run tbOk 6 ⟨Tryz.func116, rfl, rfl, Nat.le_of_ble_eq_true rfl⟩ ?_
    (conv => whnf)
    refine V.st ?_
    repeat ((try ((with_reducible refine .ext ?_); (conv => whnf))); (with_reducible refine call_intro (r := ?_) ?_ ?_); rotate_left; (focus (first | exact (r1) | exact (r2) | exact (o))); (conv => whnf); refine V.st ?_)
    exact Fin.of rfl
  have rs : Called Tryz.prog 115 [rtD q, .int .i64 0] (frR q) := by
    refine called_of_run tbOk 6 ⟨Tryz.func115, rfl, rfl, Nat.le_of_ble_eq_true rfl⟩ ?_
    (conv => whnf)
    refine V.st ?_
    repeat ((try ((with_reducible refine .ext ?_); (conv => whnf))); (with_reducible refine call_intro (r := ?_) ?_ ?_); rotate_left; (focus (first | exact (w))); (conv => whnf); refine V.st ?_)
    exact Fin.of rfl
  refine called_of_run tbOk 6 ⟨Tryz.func54, rfl, rfl, Nat.le_of_ble_eq_true rfl⟩ ?_
  (conv => whnf)
  refine V.st ?_
  repeat ((try ((with_reducible refine .ext ?_); (conv => whnf))); (with_reducible refine call_intro (r := ?_) ?_ ?_); rotate_left; (focus (first | exact (ap) | exact (rs))); (conv => whnf); refine V.st ?_)
  exact Fin.of rfl
theorem fsub_ok (s t u v : List UInt8) (h : okP s t = true) (g : okP u v = true) (hn : (mg 1000000000 (qv s t - qv u v).num.natAbs).length ≤ 90000000) (hd : (mg 1000000000 (qv s t - qv u v).den).length ≤ 90000000) : Called Tryz.prog 55 [.agg [.str s, .str t], .agg [.str u, .str v]] (frR (qv s t - qv u v)) := by
  have r1 := read_ok s t h
  have r2 := read_ok u v g
  have o := sub_c (qv s t) (qv u v) (qsize h) (qsize g)
  have w := write_c (qv s t - qv u v) hn hd
  generalize qv s t - qv u v = q at *
  have ap : Called Tryz.prog 116 [.agg [.str s, .str t], .agg [.str u, .str v], .fn 118 [] []] (.tup [rtD q, .int .i64 0]) := by
    refine called_of_run tbOk 6 ⟨Tryz.func116, rfl, rfl, Nat.le_of_ble_eq_true rfl⟩ ?_
    (conv => whnf)
    refine V.st ?_
    repeat ((try ((with_reducible refine .ext ?_); (conv => whnf))); (with_reducible refine call_intro (r := ?_) ?_ ?_); rotate_left; (focus (first | exact (r1) | exact (r2) | exact (o))); (conv => whnf); refine V.st ?_)
    exact Fin.of rfl
  have rs : Called Tryz.prog 115 [rtD q, .int .i64 0] (frR q) := by
    refine called_of_run tbOk 6 ⟨Tryz.func115, rfl, rfl, Nat.le_of_ble_eq_true rfl⟩ ?_
    (conv => whnf)
    refine V.st ?_
    repeat ((try ((with_reducible refine .ext ?_); (conv => whnf))); (with_reducible refine call_intro (r := ?_) ?_ ?_); rotate_left; (focus (first | exact (w))); (conv => whnf); refine V.st ?_)
    exact Fin.of rfl
  refine called_of_run tbOk 6 ⟨Tryz.func55, rfl, rfl, Nat.le_of_ble_eq_true rfl⟩ ?_
  (conv => whnf)
  refine V.st ?_
  repeat ((try ((with_reducible refine .ext ?_); (conv => whnf))); (with_reducible refine call_intro (r := ?_) ?_ ?_); rotate_left; (focus (first | exact (ap) | exact (rs))); (conv => whnf); refine V.st ?_)
  exact Fin.of rfl
theorem fmul_ok (s t u v : List UInt8) (h : okP s t = true) (g : okP u v = true) (hn : (mg 1000000000 (qv s t * qv u v).num.natAbs).length ≤ 90000000) (hd : (mg 1000000000 (qv s t * qv u v).den).length ≤ 90000000) : Called Tryz.prog 56 [.agg [.str s, .str t], .agg [.str u, .str v]] (frR (qv s t * qv u v)) := by
  have r1 := read_ok s t h
  have r2 := read_ok u v g
  have o := mul_c (qv s t) (qv u v) (qsize h) (qsize g)
  have w := write_c (qv s t * qv u v) hn hd
  generalize qv s t * qv u v = q at *
  have ap : Called Tryz.prog 116 [.agg [.str s, .str t], .agg [.str u, .str v], .fn 119 [] []] (.tup [rtD q, .int .i64 0]) := by
    refine called_of_run tbOk 6 ⟨Tryz.func116, rfl, rfl, Nat.le_of_ble_eq_true rfl⟩ ?_
    (conv => whnf)
    refine V.st ?_
    repeat ((try ((with_reducible refine .ext ?_); (conv => whnf))); (with_reducible refine call_intro (r := ?_) ?_ ?_); rotate_left; (focus (first | exact (r1) | exact (r2) | exact (o))); (conv => whnf); refine V.st ?_)
    exact Fin.of rfl
  have rs : Called Tryz.prog 115 [rtD q, .int .i64 0] (frR q) := by
    refine called_of_run tbOk 6 ⟨Tryz.func115, rfl, rfl, Nat.le_of_ble_eq_true rfl⟩ ?_
    (conv => whnf)
    refine V.st ?_
    repeat ((try ((with_reducible refine .ext ?_); (conv => whnf))); (with_reducible refine call_intro (r := ?_) ?_ ?_); rotate_left; (focus (first | exact (w))); (conv => whnf); refine V.st ?_)
    exact Fin.of rfl
  refine called_of_run tbOk 6 ⟨Tryz.func56, rfl, rfl, Nat.le_of_ble_eq_true rfl⟩ ?_
  (conv => whnf)
  refine V.st ?_
  repeat ((try ((with_reducible refine .ext ?_); (conv => whnf))); (with_reducible refine call_intro (r := ?_) ?_ ?_); rotate_left; (focus (first | exact (ap) | exact (rs))); (conv => whnf); refine V.st ?_)
  exact Fin.of rfl
theorem Q9.inv {k : Nat} {q : Rat} (h : Q9 k q) (h0 : q.num ≠ 0) : Q9 k q⁻¹ := by
  obtain ⟨p1, p2⟩ := inv_parts q h0
  constructor
  · rw [p1]
    unfold S9
    have e : (if decide (q.num < 0) = true then -(q.den : Int) else (q.den : Int)).natAbs = q.den := by
      split <;> simp
    rw [e]
    exact h.2
  · rw [p2]; exact h.1
theorem fdiv_ok (s t u v : List UInt8) (h : okP s t = true) (g : okP u v = true) (h0 : (qv u v).num ≠ 0) (hn : (mg 1000000000 (qv s t / qv u v).num.natAbs).length ≤ 90000000) (hd : (mg 1000000000 (qv s t / qv u v).den).length ≤ 90000000) : Called Tryz.prog 57 [.agg [.str s, .str t], .agg [.str u, .str v]] (frR (qv s t / qv u v)) := by
  have r1 := read_ok s t h
  have r2 := read_ok u v g
  have z1 := zero_c (qv u v).num.natAbs
  rw [decide_eq_false (show ¬ (qv u v).num.natAbs = 0 by omega)] at z1
  have i1 := inverse_c (qv u v) h0
  have o := mul_c (qv s t) (qv u v)⁻¹ (qsize h) ((qsize g).inv h0)
  have w := write_c (qv s t / qv u v) hn hd
  rw [Rat.div_def] at w ⊢
  unfold frR at *
  generalize qv s t * (qv u v)⁻¹ = q at *
  generalize (qv u v)⁻¹ = y at *
  refine called_of_run tbOk 6 ⟨Tryz.func57, rfl, rfl, Nat.le_of_ble_eq_true rfl⟩ ?_
  (conv => whnf)
  refine V.st ?_
  repeat ((try ((with_reducible refine .ext ?_); (conv => whnf))); (with_reducible refine call_intro (r := ?_) ?_ ?_); rotate_left; (focus (first | exact (r1) | exact (r2) | exact (z1))); (conv => whnf); refine V.st ?_)
  refine ⟨(.take 0 (.take 1 (.ev (.cons 2 [0] (.ev (.cons 3 [] (.ev (.cons 4 [] (.take 5 (.take 6 (.ev (.cons 7 [] (.take 8 (.done)) (.nil))))) (.nil))) (.nil))) (.nil))))), ⟨by kernel_rfl, by kernel_rfl, by kernel_rfl⟩, .go ?_⟩
  (conv => whnf)
  refine V.st ?_
  repeat ((try ((with_reducible refine .ext ?_); (conv => whnf))); (with_reducible refine call_intro (r := ?_) ?_ ?_); rotate_left; (focus (first | exact (i1) | exact (o) | exact (w))); (conv => whnf); refine V.st ?_)
  exact Fin.of rfl
theorem okF_40 {q : Rat} (h1 : q.num.natAbs < 10 ^ 40) (h2 : q.den < 10 ^ 40) : okF q = true := by
  unfold okF
  simp only [Bool.and_eq_true, decide_eq_true_eq]
  exact ⟨Nat.le_trans (pad_dec 40 _ (by omega) h1).1 (by omega), Nat.le_trans (pad_dec 40 _ (by omega) h2).1 (by omega)⟩
theorem mg_40 {n : Nat} (h : n < 10 ^ 40) : (mg 1000000000 n).length ≤ 90000000 := Nat.le_trans (mg_len_le (k := 5) (by omega) (by omega)) (by omega)
/-- a fraction of numbers of up to 40 digits -/
theorem divInt_40 (n d : Int) (hn : -10000000000000000000000000000000000000000 < n ∧ n < 10000000000000000000000000000000000000000) (hd : d ≠ 0 ∧ -10000000000000000000000000000000000000000 < d ∧ d < 10000000000000000000000000000000000000000) :
    (Rat.divInt n d).num.natAbs < 10 ^ 40 ∧ (Rat.divInt n d).den < 10 ^ 40 := by
  rcases (by omega : 0 < d ∨ d < 0) with h | h
  · obtain ⟨k, rfl⟩ : ∃ k : Nat, d = k := ⟨d.toNat, by omega⟩
    have := divInt_le n k (by omega)
    constructor
    · exact Nat.lt_of_le_of_lt this.1 (by omega)
    · exact Nat.lt_of_le_of_lt this.2 (by omega)
  · rw [← Rat.neg_divInt_neg]
    obtain ⟨k, hk⟩ : ∃ k : Nat, -d = k := ⟨(-d).toNat, by omega⟩
    rw [hk]
    have := divInt_le (-n) k (by omega)
    constructor
    · exact Nat.lt_of_le_of_lt this.1 (by omega)
    · exact Nat.lt_of_le_of_lt this.2 (by omega)
theorem frR_ok {q : Rat} (h : okF q = true) : frR q = .tup [frT q, .int .i64 0] := by
  unfold frR
  rw [h]
  rfl
end Go.Proofs.YtplflfnfodghmaaGreatDoor
end
section
/-! smaller bands have smaller results: plain laws -/
set_option linter.unusedSimpArgs false
set_option linter.unusedVariables false
set_option maxHeartbeats 8000000
set_option maxRecDepth 100000
namespace Go.Proofs.YtplflfnfodghmaaGreatDoor
open Go Go.V Go.Nb
theorem corner_lo {p q p2 q2 x y : Int} (hx : p ≤ x ∧ x ≤ q) (hy : p2 ≤ y ∧ y ≤ q2) : p * p2 ≤ x * y ∨ p * q2 ≤ x * y ∨ q * p2 ≤ x * y ∨ q * q2 ≤ x * y := by
  rcases Int.le_total 0 y with h | h
  · have h1 : p * y ≤ x * y := Int.mul_le_mul_of_nonneg_right hx.1 h
    rcases Int.le_total 0 p with g | g
    · have h2 : p * p2 ≤ p * y := Int.mul_le_mul_of_nonneg_left hy.1 g
      omega
    · have h2 : p * q2 ≤ p * y := Int.mul_le_mul_of_nonpos_left g hy.2
      omega
  · have h1 : q * y ≤ x * y := Int.mul_le_mul_of_nonpos_right hx.2 h
    rcases Int.le_total 0 q with g | g
    · have h2 : q * p2 ≤ q * y := Int.mul_le_mul_of_nonneg_left hy.1 g
      omega
    · have h2 : q * q2 ≤ q * y := Int.mul_le_mul_of_nonpos_left g hy.2
      omega
theorem corner_hi {p q p2 q2 x y : Int} (hx : p ≤ x ∧ x ≤ q) (hy : p2 ≤ y ∧ y ≤ q2) : x * y ≤ p * p2 ∨ x * y ≤ p * q2 ∨ x * y ≤ q * p2 ∨ x * y ≤ q * q2 := by
  have h := corner_lo (p := -q) (q := -p) (x := -x) (by omega) hy
  simp only [Int.neg_mul] at h
  omega
theorem mnf {d z a b c e : Int} (hd : 0 < d) (h : a ≤ z ∨ b ≤ z ∨ c ≤ z ∨ e ≤ z) : mn4 (flo a d) (flo b d) (flo c d) (flo e d) ≤ flo z d := by
  unfold mn4
  rcases h with h | h | h | h <;> (have := flo_mono hd h; omega)
theorem mxc {d z a b c e : Int} (hd : 0 < d) (h : z ≤ a ∨ z ≤ b ∨ z ≤ c ∨ z ≤ e) : cei z d ≤ mx4 (cei a d) (cei b d) (cei c d) (cei e d) := by
  unfold mx4
  rcases h with h | h | h | h <;> (have := cei_mono hd h; omega)
theorem mn4_le {m a b c d : Int} (h1 : m ≤ a) (h2 : m ≤ b) (h3 : m ≤ c) (h4 : m ≤ d) : m ≤ mn4 a b c d := by unfold mn4; omega
theorem le_mx4 {m a b c d : Int} (h1 : a ≤ m) (h2 : b ≤ m) (h3 : c ≤ m) (h4 : d ≤ m) : mx4 a b c d ≤ m := by unfold mx4; omega
theorem mn_mx {a b c d a' b' c' d' : Int} (h : a ≤ a') : mn4 a b c d ≤ mx4 a' b' c' d' := by unfold mn4 mx4; omega
/-- what is said of the results on bands and on smaller ones -/
def Shr (r s : Int × Int × Int) : Prop := (∃ x y x' y', r = (x, y, 0) ∧ s = (x', y', 0) ∧ x ≤ x' ∧ y' ≤ y) ∨ r = (0, 0, 6) ∨ r = (0, 0, 7)
theorem shr_mk {p q p' q' : Int} (h1 : p ≤ p') (h2 : q' ≤ q) (h3 : p' ≤ q') : Shr (mk p q) (mk p' q') := by
  by_cases hv : vb p q = true
  · have hb := vb_iff.1 hv
    exact .inl ⟨p, q, p', q', mk_ok hb, mk_ok (by omega), h1, h2⟩
  · refine .inr (.inl ?_)
    unfold mk; rw [if_neg hv]
theorem shr_mul {p q p2 q2 m n m2 n2 : Int} (h1 : p ≤ m) (h2 : m ≤ n) (h3 : n ≤ q) (g1 : p2 ≤ m2) (g2 : m2 ≤ n2) (g3 : n2 ≤ q2) : Shr (mulR p q p2 q2) (mulR m n m2 n2) := by
  unfold mulR
  have lo : ∀ x y, m ≤ x ∧ x ≤ n → m2 ≤ y ∧ y ≤ n2 → mn4 (flo (p * p2) 1000000000000) (flo (p * q2) 1000000000000) (flo (q * p2) 1000000000000) (flo (q * q2) 1000000000000) ≤ flo (x * y) 1000000000000 :=
    fun x y hx hy => mnf (by omega) (corner_lo (by omega) (by omega))
  have hi : ∀ x y, m ≤ x ∧ x ≤ n → m2 ≤ y ∧ y ≤ n2 → cei (x * y) 1000000000000 ≤ mx4 (cei (p * p2) 1000000000000) (cei (p * q2) 1000000000000) (cei (q * p2) 1000000000000) (cei (q * q2) 1000000000000) :=
    fun x y hx hy => mxc (by omega) (corner_hi (by omega) (by omega))
  exact shr_mk (mn4_le (lo _ _ (by omega) (by omega)) (lo _ _ (by omega) (by omega)) (lo _ _ (by omega) (by omega)) (lo _ _ (by omega) (by omega)))
    (le_mx4 (hi _ _ (by omega) (by omega)) (hi _ _ (by omega) (by omega)) (hi _ _ (by omega) (by omega)) (hi _ _ (by omega) (by omega))) (mn_mx (flo_le_cei _ _ (by omega)))
theorem ediv_pos_mono {a y z : Int} (ha : 0 ≤ a) (hy : 0 < y) (hz : y ≤ z) : a / z ≤ a / y := by
  refine (Int.le_ediv_iff_mul_le hy).2 ?_
  have h0 : 0 ≤ a / z := Int.ediv_nonneg ha (by omega)
  have h1 := Int.mul_le_mul_of_nonneg_left hz h0
  have h2 := Int.ediv_mul_le a (b := z) (by omega)
  omega
theorem ediv_neg_mono {a y z : Int} (ha : a ≤ 0) (hy : 0 < y) (hz : y ≤ z) : a / y ≤ a / z := by
  refine (Int.le_ediv_iff_mul_le (by omega)).2 ?_
  have h0 : a / y ≤ 0 := by
    have := Int.ediv_le_ediv hy ha
    simpa using this
  have h1 : a / y * z ≤ a / y * y := Int.mul_le_mul_of_nonpos_left h0 hz
  have h2 := Int.ediv_mul_le a (b := y) (by omega)
  omega
theorem ediv_corner {a z y p2 q2 : Int} (hp : 0 < p2) (haz : a ≤ z) (h1 : p2 ≤ y) (h2 : y ≤ q2) : a / p2 ≤ z / y ∨ a / q2 ≤ z / y := by
  have h3 := Int.ediv_le_ediv (show 0 < y by omega) haz
  rcases Int.le_total 0 a with h | h
  · have := ediv_pos_mono h (show 0 < y by omega) h2
    omega
  · have := ediv_neg_mono h hp h1
    omega
theorem div_lo {p q p2 q2 x y : Int} (hx : p ≤ x ∧ x ≤ q) (hy : p2 ≤ y ∧ y ≤ q2) (hz : 0 < p2 ∨ q2 < 0) : flo (p * 1000000000000) p2 ≤ flo (x * 1000000000000) y ∨ flo (p * 1000000000000) q2 ≤ flo (x * 1000000000000) y ∨ flo (q * 1000000000000) p2 ≤ flo (x * 1000000000000) y ∨ flo (q * 1000000000000) q2 ≤ flo (x * 1000000000000) y := by
  unfold flo
  rcases hz with hz | hz
  · rw [if_pos hz, if_pos (show 0 < y by omega), if_pos (show 0 < q2 by omega)]
    have := ediv_corner hz (show p * 1000000000000 ≤ x * 1000000000000 by omega) hy.1 hy.2
    omega
  · rw [if_neg (show ¬ 0 < p2 by omega), if_neg (show ¬ 0 < y by omega), if_neg (show ¬ 0 < q2 by omega)]
    have := ediv_corner (p2 := -q2) (q2 := -p2) (y := -y) (by omega) (show -(q * 1000000000000) ≤ -(x * 1000000000000) by omega) (by omega) (by omega)
    rw [if_neg (show ¬ 0 < p2 by omega)]
    omega
theorem div_hi {p q p2 q2 x y : Int} (hx : p ≤ x ∧ x ≤ q) (hy : p2 ≤ y ∧ y ≤ q2) (hz : 0 < p2 ∨ q2 < 0) : cei (x * 1000000000000) y ≤ cei (p * 1000000000000) p2 ∨ cei (x * 1000000000000) y ≤ cei (p * 1000000000000) q2 ∨ cei (x * 1000000000000) y ≤ cei (q * 1000000000000) p2 ∨ cei (x * 1000000000000) y ≤ cei (q * 1000000000000) q2 := by
  have h := div_lo (p := -q) (q := -p) (x := -x) (by omega) hy hz
  unfold cei
  simp only [Int.neg_mul] at h
  omega
theorem shr_div {p q p2 q2 m n m2 n2 : Int} (h1 : p ≤ m) (h2 : m ≤ n) (h3 : n ≤ q) (g1 : p2 ≤ m2) (g2 : m2 ≤ n2) (g3 : n2 ≤ q2) : Shr (if p2 ≤ 0 ∧ 0 ≤ q2 then (0, 0, 7) else divR p q p2 q2) (if m2 ≤ 0 ∧ 0 ≤ n2 then (0, 0, 7) else divR m n m2 n2) := by
  by_cases hz : p2 ≤ 0 ∧ 0 ≤ q2
  · rw [if_pos hz]; exact .inr (.inr rfl)
  · rw [if_neg hz, if_neg (by omega)]
    unfold divR
    have lo : ∀ x y, m ≤ x ∧ x ≤ n → m2 ≤ y ∧ y ≤ n2 → mn4 (flo (p * 1000000000000) p2) (flo (p * 1000000000000) q2) (flo (q * 1000000000000) p2) (flo (q * 1000000000000) q2) ≤ flo (x * 1000000000000) y :=
      fun x y hx hy => by
        have := div_lo (p := p) (q := q) (p2 := p2) (q2 := q2) (x := x) (y := y) (by omega) (by omega) (by omega)
        unfold mn4; omega
    have hi : ∀ x y, m ≤ x ∧ x ≤ n → m2 ≤ y ∧ y ≤ n2 → cei (x * 1000000000000) y ≤ mx4 (cei (p * 1000000000000) p2) (cei (p * 1000000000000) q2) (cei (q * 1000000000000) p2) (cei (q * 1000000000000) q2) :=
      fun x y hx hy => by
        have := div_hi (p := p) (q := q) (p2 := p2) (q2 := q2) (x := x) (y := y) (by omega) (by omega) (by omega)
        unfold mx4; omega
    exact shr_mk (mn4_le (lo _ _ (by omega) (by omega)) (lo _ _ (by omega) (by omega)) (lo _ _ (by omega) (by omega)) (lo _ _ (by omega) (by omega)))
      (le_mx4 (hi _ _ (by omega) (by omega)) (hi _ _ (by omega) (by omega)) (hi _ _ (by omega) (by omega)) (hi _ _ (by omega) (by omega))) (mn_mx (flo_le_cei _ _ (by omega)))
/-- the choices of two bands, told plainly -/
theorem min_R {p q p2 q2 : Int} (h : p ≤ q) (h2 : p2 ≤ q2) : (if p = p2 ∧ q = q2 then (p, q, (0 : Int)) else if min q q2 < min p p2 then (0, 0, 4) else (min p p2, min q q2, 0)) = (min p p2, min q q2, 0) := by
  by_cases he : p = p2 ∧ q = q2
  · rw [if_pos he, show min p p2 = p by omega, show min q q2 = q by omega]
  · rw [if_neg he, if_neg (by omega)]
theorem max_R {p q p2 q2 : Int} (h : p ≤ q) (h2 : p2 ≤ q2) : (if p = p2 ∧ q = q2 then (p, q, (0 : Int)) else if max q q2 < max p p2 then (0, 0, 4) else (max p p2, max q q2, 0)) = (max p p2, max q q2, 0) := by
  by_cases he : p = p2 ∧ q = q2
  · rw [if_pos he, show max p p2 = p by omega, show max q q2 = q by omega]
  · rw [if_neg he, if_neg (by omega)]
theorem hull_R {p q p2 q2 : Int} (h : p ≤ q) (h2 : p2 ≤ q2) : (if p = p2 ∧ q = q2 then (p, q, (0 : Int)) else if max q q2 < min p p2 then (0, 0, 4) else (min p p2, max q q2, 0)) = (min p p2, max q q2, 0) := by
  by_cases he : p = p2 ∧ q = q2
  · rw [if_pos he, show min p p2 = p by omega, show max q q2 = q by omega]
  · rw [if_neg he, if_neg (by omega)]
end Go.Proofs.YtplflfnfodghmaaGreatDoor
end
section
/-! plain laws: results hold the exact results -/
set_option linter.unusedSimpArgs false
set_option linter.unusedVariables false
set_option maxHeartbeats 8000000
set_option maxRecDepth 100000
namespace Go.Proofs.YtplflfnfodghmaaGreatDoor
open Go Go.V Go.Nb
theorem has_in {x : Rat} {p q p' q' : Int} (h : hasR x p' q' = true) (h1 : p ≤ p') (h2 : q' ≤ q) : hasR x p q = true := by
  rw [has_iff] at h ⊢
  have hp : (0 : Int) ≤ x.den := by omega
  have a1 := Int.mul_le_mul_of_nonneg_right h1 hp
  have a2 := Int.mul_le_mul_of_nonneg_right h2 hp
  omega
theorem has_tight (x : Rat) : hasR x (loE x) (hiE x) = true := by
  have hp := x.den_pos
  have e1 := loE_divInt x.num x.den (by omega)
  have e2 := hiE_divInt x.num x.den (by omega)
  rw [Rat.num_divInt_den] at e1 e2
  rw [e1, e2, has_iff]
  exact ⟨(flo_mul (by omega)).1, (cei_mul (by omega)).1⟩
theorem cei_flo1 (z d : Int) (hd : 0 < d) : cei z d - flo z d ≤ 1 := by
  have h1 := flo_mul (z := z) hd
  have h2 := cei_mul (z := z) hd
  rcases Int.lt_or_le 1 (cei z d - flo z d) with h | h
  · exfalso
    have := Int.mul_le_mul_of_nonneg_right (show 2 ≤ cei z d - flo z d by omega) (show (0 : Int) ≤ d by omega)
    rw [Int.sub_mul] at this
    omega
  · exact h
theorem cei_flo2 (z d : Int) (hd : d ≠ 0) : cei z d - flo z d ≤ 1 := by
  rcases (by omega : 0 < d ∨ d < 0) with h | h
  · exact cei_flo1 z d h
  · have := cei_flo1 (-z) (-d) (by omega)
    unfold cei flo at *
    rw [if_neg (show ¬ 0 < d by omega)]
    rw [if_pos (show 0 < -d by omega)] at this
    rw [if_neg (show ¬ 0 < d by omega)]
    rw [if_pos (show 0 < -d by omega)] at this
    exact this
/-- what is said of a result on bands, of that on points in them, and of the exact one -/
def Holds3 (r s : Int × Int × Int) (z : Rat) : Prop := ∃ x y u w, r = (x, y, 0) ∧ s = (u, w, 0) ∧ vb x y = true ∧ hasR z x y = true ∧ w - u ≤ 1 ∧ x ≤ u ∧ w ≤ y ∧ vb u w = true
theorem holds3_of {r s : Int × Int × Int} {z : Rat} (h : Shr r s) (hs : s = mk (loE z) (hiE z)) (h1 : hiE z - loE z ≤ 1) (hr : ∀ x y, r = (x, y, 0) → vb x y = true) : Holds3 r s z ∨ r = (0, 0, 6) ∨ r = (0, 0, 7) := by
  rcases h with ⟨x, y, u, w, e1, e2, h2, h3⟩ | h | h
  · left
    have hm : (u, w, (0 : Int)) = mk (loE z) (hiE z) := by rw [← e2, hs]
    unfold mk at hm
    split at hm
    · rename_i hv
      simp only [Prod.mk.injEq, and_true] at hm
      obtain ⟨rfl, rfl⟩ := hm
      exact ⟨x, y, _, _, e1, e2, hr x y e1, has_in (has_tight z) h2 h3, h1, h2, h3, hv⟩
    · simp at hm
  · exact .inr (.inl h)
  · exact .inr (.inr h)
theorem mk_vb {p q x y : Int} (h : mk p q = (x, y, 0)) : vb x y = true := by
  unfold mk at h
  split at h
  · simp only [Prod.mk.injEq, and_true] at h
    obtain ⟨rfl, rfl⟩ := h
    assumption
  · simp at h
theorem mulR_pt (a b : Int) : mulR a a b b = mk (loE (unit a * unit b)) (hiE (unit a * unit b)) := by
  rw [loE_mul, hiE_mul]
  unfold mulR mn4 mx4
  congr 1 <;> omega
theorem divR_pt (a b : Int) (h : b ≠ 0) : divR a a b b = mk (loE (unit a / unit b)) (hiE (unit a / unit b)) := by
  rw [loE_div _ _ h, hiE_div _ _ h]
  unfold divR mn4 mx4
  congr 1 <;> omega
/-- the products of small numbers -/
theorem prod_bd {x y : Int} (hx : -19000001000000 ≤ x ∧ x ≤ 19000001000000) (hy : -19000001000000 ≤ y ∧ y ≤ 19000001000000) : -361000038000001000000000000 ≤ x * y ∧ x * y ≤ 361000038000001000000000000 := by
  have h1 := corner_lo hx hy
  have h2 := corner_hi hx hy
  omega
theorem flo_E {z : Int} (h : -361000038000001000000000000 ≤ z ∧ z ≤ 361000038000001000000000000) : -361000038000001 ≤ flo z 1000000000000 ∧ flo z 1000000000000 ≤ 361000038000001 ∧ -361000038000001 ≤ cei z 1000000000000 ∧ cei z 1000000000000 ≤ 361000038000001 := by
  have a1 := flo_mono (d := 1000000000000) (by omega) (show -361000038000001 * 1000000000000 ≤ z by omega)
  have a2 := flo_mono (d := 1000000000000) (by omega) (show z ≤ 361000038000001 * 1000000000000 by omega)
  have a3 := cei_mono (d := 1000000000000) (by omega) (show -361000038000001 * 1000000000000 ≤ z by omega)
  have a4 := cei_mono (d := 1000000000000) (by omega) (show z ≤ 361000038000001 * 1000000000000 by omega)
  rw [flo_self (by omega)] at a1 a2
  rw [cei_self (by omega)] at a3 a4
  omega
theorem mulR_ok {p q p2 q2 : Int} (h1 : -19000001000000 ≤ p ∧ p ≤ q ∧ q ≤ 19000001000000) (h2 : -19000001000000 ≤ p2 ∧ p2 ≤ q2 ∧ q2 ≤ 19000001000000) : ∃ x y, mulR p q p2 q2 = (x, y, 0) := by
  have c1 := flo_E (prod_bd (x := p) (y := p2) (by omega) (by omega))
  have c2 := flo_E (prod_bd (x := p) (y := q2) (by omega) (by omega))
  have c3 := flo_E (prod_bd (x := q) (y := p2) (by omega) (by omega))
  have c4 := flo_E (prod_bd (x := q) (y := q2) (by omega) (by omega))
  have hm := flo_le_cei (p * p2) 1000000000000 (by omega)
  have hle : mn4 (flo (p * p2) 1000000000000) (flo (p * q2) 1000000000000) (flo (q * p2) 1000000000000) (flo (q * q2) 1000000000000) ≤ mx4 (cei (p * p2) 1000000000000) (cei (p * q2) 1000000000000) (cei (q * p2) 1000000000000) (cei (q * q2) 1000000000000) := mn_mx hm
  unfold mulR
  generalize p * p2 = z1 at *
  generalize p * q2 = z2 at *
  generalize q * p2 = z3 at *
  generalize q * q2 = z4 at *
  refine ⟨_, _, mk_ok ⟨?_, hle, ?_⟩⟩
  · unfold mn4; omega
  · unfold mx4; omega
theorem holds_add {p q p2 q2 a b : Int} (h1 : -19000001000000 ≤ p ∧ p ≤ a ∧ a ≤ q ∧ q ≤ 19000001000000) (h2 : -19000001000000 ≤ p2 ∧ p2 ≤ b ∧ b ≤ q2 ∧ q2 ≤ 19000001000000) : Holds3 (mk (p + p2) (q + q2)) (mk (a + b) (a + b)) (unit a + unit b) := by
  rw [mk_ok (by omega), mk_ok (by omega), unit_add]
  refine ⟨_, _, _, _, rfl, rfl, vb_iff.2 (by omega), ?_, by omega, by omega, by omega, vb_iff.2 (by omega)⟩
  have := has_tight (unit (a + b))
  rw [loE_unit, hiE_unit] at this
  exact has_in this (by omega) (by omega)
theorem holds_sub {p q p2 q2 a b : Int} (h1 : -19000001000000 ≤ p ∧ p ≤ a ∧ a ≤ q ∧ q ≤ 19000001000000) (h2 : -19000001000000 ≤ p2 ∧ p2 ≤ b ∧ b ≤ q2 ∧ q2 ≤ 19000001000000) : Holds3 (mk (p - q2) (q - p2)) (mk (a - b) (a - b)) (unit a - unit b) := by
  rw [mk_ok (by omega), mk_ok (by omega), unit_sub]
  refine ⟨_, _, _, _, rfl, rfl, vb_iff.2 (by omega), ?_, by omega, by omega, by omega, vb_iff.2 (by omega)⟩
  have := has_tight (unit (a - b))
  rw [loE_unit, hiE_unit] at this
  exact has_in this (by omega) (by omega)
theorem holds_mul {p q p2 q2 a b : Int} (h1 : -19000001000000 ≤ p ∧ p ≤ a ∧ a ≤ q ∧ q ≤ 19000001000000) (h2 : -19000001000000 ≤ p2 ∧ p2 ≤ b ∧ b ≤ q2 ∧ q2 ≤ 19000001000000) : Holds3 (mulR p q p2 q2) (mulR a a b b) (unit a * unit b) := by
  have h := shr_mul (p := p) (q := q) (m := a) (n := a) (p2 := p2) (q2 := q2) (m2 := b) (n2 := b) h1.2.1 (by omega) h1.2.2.1 h2.2.1 (by omega) h2.2.2.1
  have h3 := holds3_of h (mulR_pt a b) (by rw [loE_mul, hiE_mul]; exact cei_flo1 _ _ (by omega)) (fun x y e => mk_vb e)
  obtain ⟨x, y, e⟩ := mulR_ok (p := p) (q := q) (p2 := p2) (q2 := q2) (by omega) (by omega)
  rcases h3 with h3 | h3 | h3
  · exact h3
  · rw [e] at h3; simp at h3
  · rw [e] at h3; simp at h3
theorem holds_div {p q p2 q2 a b : Int} (h1 : p ≤ a ∧ a ≤ q) (h2 : p2 ≤ b ∧ b ≤ q2) : ((Holds3 (divR p q p2 q2) (divR a a b b) (unit a / unit b) ∧ b ≠ 0) ∨ divR p q p2 q2 = (0, 0, 6)) ∨ (p2 ≤ 0 ∧ 0 ≤ q2) := by
  by_cases hz : p2 ≤ 0 ∧ 0 ≤ q2
  · exact .inr hz
  · have hb : b ≠ 0 := by omega
    have h := shr_div (p := p) (q := q) (m := a) (n := a) (p2 := p2) (q2 := q2) (m2 := b) (n2 := b) h1.1 (by omega) h1.2 h2.1 (by omega) h2.2
    rw [if_neg hz, if_neg (show ¬ (b ≤ 0 ∧ 0 ≤ b) by omega)] at h
    have h3 := holds3_of h (divR_pt a b hb) (by rw [loE_div _ _ hb, hiE_div _ _ hb]; exact cei_flo2 _ _ hb) (fun x y e => mk_vb e)
    rcases h3 with h3 | h3 | h3
    · exact .inl (.inl ⟨h3, hb⟩)
    · exact .inl (.inr h3)
    · exfalso
      unfold divR mk at h3
      split at h3 <;> simp at h3
/-- squares -/
theorem holds_sqr {p q a : Int} (h1 : -19000001000000 ≤ p ∧ p ≤ a ∧ a ≤ q ∧ q ≤ 19000001000000) :
    ∃ x y u w, sqrR p q = (x, y, 0) ∧ mulR p q p q = (u, w, 0) ∧ vb x y = true ∧ hasR (unit a * unit a) x y = true ∧ u ≤ x ∧ y ≤ w := by
  obtain ⟨u, w, e⟩ := mulR_ok (p := p) (q := q) (p2 := p) (q2 := q) (by omega) (by omega)
  have c1 := flo_E (prod_bd (x := p) (y := p) (by omega) (by omega))
  have c2 := flo_E (prod_bd (x := p) (y := q) (by omega) (by omega))
  have c4 := flo_E (prod_bd (x := q) (y := q) (by omega) (by omega))
  have eu : u = mn4 (flo (p * p) 1000000000000) (flo (p * q) 1000000000000) (flo (q * p) 1000000000000) (flo (q * q) 1000000000000) ∧ w = mx4 (cei (p * p) 1000000000000) (cei (p * q) 1000000000000) (cei (q * p) 1000000000000) (cei (q * q) 1000000000000) := by
    unfold mulR mk at e
    split at e
    · simp only [Prod.mk.injEq, and_true] at e
      exact ⟨e.1.symm, e.2.symm⟩
    · simp at e
  have ht := has_tight (unit a * unit a)
  rw [loE_mul, hiE_mul] at ht
  have k1 := flo_le_cei (p * p) 1000000000000 (by omega)
  have k2 := flo_le_cei (q * q) 1000000000000 (by omega)
  by_cases hf : 0 ≤ p ∨ q ≤ 0
  · have hs := sqr_far (by omega : p ≤ q) hf
    have hsq : (p * p ≤ a * a ∧ a * a ≤ q * q) ∨ (q * q ≤ a * a ∧ a * a ≤ p * p) := by
      rcases hf with g | g
      · exact .inl ⟨sq_mono g h1.2.1, sq_mono (by omega) h1.2.2.1⟩
      · have s1 := sq_mono (x := 0 - q) (y := 0 - a) (by omega) (by omega)
        have s2 := sq_mono (x := 0 - a) (y := 0 - p) (by omega) (by omega)
        simp only [sq_neg] at s1 s2
        exact .inr ⟨s1, s2⟩
    rw [mk_ok (by omega)] at hs
    refine ⟨_, _, u, w, hs, e, vb_iff.2 (by omega), has_in ht ?_ ?_, ?_, ?_⟩
    · rcases hsq with ⟨g1, g2⟩ | ⟨g1, g2⟩
      · have := flo_mono (d := 1000000000000) (by omega) g1; omega
      · have := flo_mono (d := 1000000000000) (by omega) g1; omega
    · rcases hsq with ⟨g1, g2⟩ | ⟨g1, g2⟩
      · have := cei_mono (d := 1000000000000) (by omega) g2; omega
      · have := cei_mono (d := 1000000000000) (by omega) g2; omega
    · rw [eu.1]; unfold mn4; omega
    · rw [eu.2]; unfold mx4; omega
  · have g1 : p < 0 := by omega
    have g2 : 0 < q := by omega
    have hs := sqr_near g1 g2
    rw [mk_ok (by omega)] at hs
    have hn : p * q ≤ 0 := Int.mul_nonpos_of_nonpos_of_nonneg (by omega) (by omega)
    have hn2 := flo_mono (d := 1000000000000) (by omega) hn
    have hn3 : flo 0 1000000000000 = 0 := by decide
    rw [hn3] at hn2
    have ha0 : 0 ≤ flo (a * a) 1000000000000 := flo_nn (by
      rcases Int.le_total 0 a with g | g
      · exact Int.mul_nonneg g g
      · exact Int.mul_nonneg_of_nonpos_of_nonpos g g)
    have hsq : a * a ≤ q * q ∨ a * a ≤ p * p := by
      rcases Int.le_total 0 a with g | g
      · exact .inl (sq_mono g h1.2.2.1)
      · have s2 := sq_mono (x := 0 - a) (y := 0 - p) (by omega) (by omega)
        simp only [sq_neg] at s2
        exact .inr s2
    refine ⟨_, _, u, w, hs, e, vb_iff.2 (by omega), has_in ht ?_ ?_, ?_, ?_⟩
    · omega
    · rcases hsq with g | g
      · have := cei_mono (d := 1000000000000) (by omega) g; omega
      · have := cei_mono (d := 1000000000000) (by omega) g; omega
    · rw [eu.1]
      unfold mn4
      have p1 := flo_nn (z := p * p) (Int.mul_nonneg_of_nonpos_of_nonpos (by omega) (by omega))
      have p2 := flo_nn (z := q * q) (Int.mul_nonneg (by omega) (by omega))
      omega
    · rw [eu.2]
      unfold mx4
      have p1 := cei_nn (z := p * p) (Int.mul_nonneg_of_nonpos_of_nonpos (by omega) (by omega))
      omega
end Go.Proofs.YtplflfnfodghmaaGreatDoor
end
section
/-! law BandHolds -/
set_option linter.unusedSimpArgs false
set_option linter.unusedVariables false
set_option maxHeartbeats 8000000
set_option maxRecDepth 100000
namespace Go.Proofs.YtplflfnfodghmaaGreatDoor
open Go Go.V Go.Nb
theorem fdiv_zero (s t u v : List UInt8) (h : okP s t = true) (g : okP u v = true) (h0 : (qv u v).num = 0) : Called Tryz.prog 57 [.agg [.str s, .str t], .agg [.str u, .str v]] (.tup [.agg [.str [], .str []], .int .i64 7]) := by
  have r1 := read_ok s t h
  have r2 := read_ok u v g
  have z1 := zero_c (qv u v).num.natAbs
  rw [decide_eq_true (show (qv u v).num.natAbs = 0 by omega)] at z1
  refine called_of_run tbOk 6 ⟨Tryz.func57, rfl, rfl, Nat.le_of_ble_eq_true rfl⟩ ?_
  (conv => whnf)
  refine V.st ?_
  repeat ((try ((with_reducible refine .ext ?_); (conv => whnf))); (with_reducible refine call_intro (r := ?_) ?_ ?_); rotate_left; (focus (first | exact (r1) | exact (r2) | exact (z1))); (conv => whnf); refine V.st ?_)
  exact Fin.of rfl
/-- a fraction of numbers of up to 40 digits, in the program's own way -/
def Sz (z : Rat) : Prop := z.num.natAbs < 10 ^ 40 ∧ z.den < 10 ^ 40
theorem hold_pack {z : Rat} {r s : Int × Int × Int} (H : Holds3 r s z) (hz : Sz z) : ∃ x y u w, r = (x, y, 0) ∧ s = (u, w, 0) ∧ Called Tryz.prog 44 [bA x y, frT z] (.tup [.bool true, .int .i64 0]) ∧
    Called Tryz.prog 58 [bA u w, bA x y] (.bool true) ∧ w - u ≤ 1 ∧ (-1000000000000000000 ≤ u ∧ u ≤ w ∧ w ≤ 1000000000000000000) := by
  obtain ⟨x, y, u, w, e1, e2, h1, h2, h3, h4, h5, h6⟩ := H
  obtain ⟨o1, o2⟩ := okP_dec (okF_40 hz.1 hz.2)
  have h := has_ok x y (decZ z.num) (dec z.den) h1 o1
  rw [o2, h2] at h
  exact ⟨x, y, u, w, e1, e2, h, inside_yes h4 h5, h3, vb_iff.1 h6⟩
def Fr (f : Nat) (A B : Int) (z : Rat) : Prop := Called Tryz.prog f [frT (unit A), frT (unit B)] (.tup [frT z, .int .i64 0]) ∧ Sz z
theorem unit_ok {A : Int} (h : -19000001000000 ≤ A ∧ A ≤ 19000001000000) : okP (decZ (unit A).num) (dec (unit A).den) = true ∧ qv (decZ (unit A).num) (dec (unit A).den) = unit A := okP_dec (okF_unit A (by omega))
theorem fr_add {A B : Int} (h : -19000001000000 ≤ A ∧ A ≤ 19000001000000) (g : -19000001000000 ≤ B ∧ B ≤ 19000001000000) : Fr 54 A B (unit A + unit B) := by
  obtain ⟨o1, o2⟩ := unit_ok h
  obtain ⟨o3, o4⟩ := unit_ok g
  have n := divInt_40 (A + B) 1000000000000 (by omega) (by omega)
  rw [show Rat.divInt (A + B) 1000000000000 = unit A + unit B from (unit_add A B).symm] at n
  have c := fadd_ok _ _ _ _ o1 o3 (by rw [o2, o4]; exact mg_40 n.1) (by rw [o2, o4]; exact mg_40 n.2)
  rw [o2, o4, frR_ok (okF_40 n.1 n.2)] at c
  exact ⟨c, n⟩
theorem fr_sub {A B : Int} (h : -19000001000000 ≤ A ∧ A ≤ 19000001000000) (g : -19000001000000 ≤ B ∧ B ≤ 19000001000000) : Fr 55 A B (unit A - unit B) := by
  obtain ⟨o1, o2⟩ := unit_ok h
  obtain ⟨o3, o4⟩ := unit_ok g
  have n := divInt_40 (A - B) 1000000000000 (by omega) (by omega)
  rw [show Rat.divInt (A - B) 1000000000000 = unit A - unit B from (unit_sub A B).symm] at n
  have c := fsub_ok _ _ _ _ o1 o3 (by rw [o2, o4]; exact mg_40 n.1) (by rw [o2, o4]; exact mg_40 n.2)
  rw [o2, o4, frR_ok (okF_40 n.1 n.2)] at c
  exact ⟨c, n⟩
theorem fr_mul {A B : Int} (h : -19000001000000 ≤ A ∧ A ≤ 19000001000000) (g : -19000001000000 ≤ B ∧ B ≤ 19000001000000) : Fr 56 A B (unit A * unit B) := by
  obtain ⟨o1, o2⟩ := unit_ok h
  obtain ⟨o3, o4⟩ := unit_ok g
  have hb := prod_bd h g
  have n := divInt_40 (A * B) (1000000000000 * 1000000000000) (by omega) (by omega)
  rw [← unit_mul A B] at n
  have c := fmul_ok _ _ _ _ o1 o3 (by rw [o2, o4]; exact mg_40 n.1) (by rw [o2, o4]; exact mg_40 n.2)
  rw [o2, o4, frR_ok (okF_40 n.1 n.2)] at c
  exact ⟨c, n⟩
theorem unit_num0 (B : Int) : (unit B).num = 0 ↔ B = 0 := by
  have h := (unit_eq B (unit B)).1 rfl
  have hd := (unit B).den_pos
  constructor
  · intro e
    rw [e, Int.zero_mul] at h
    rcases Int.mul_eq_zero.1 h.symm with g | g
    · exact g
    · omega
  · intro e
    rw [e, Int.zero_mul] at h
    rw [e]
    rcases Int.mul_eq_zero.1 h with g | g
    · exact g
    · omega
theorem fr_div {A B : Int} (h : -19000001000000 ≤ A ∧ A ≤ 19000001000000) (g : -19000001000000 ≤ B ∧ B ≤ 19000001000000) (hB : B ≠ 0) : Fr 57 A B (unit A / unit B) := by
  obtain ⟨o1, o2⟩ := unit_ok h
  obtain ⟨o3, o4⟩ := unit_ok g
  have n := divInt_40 A B (by omega) (by omega)
  rw [← unit_div A B] at n
  have c := fdiv_ok _ _ _ _ o1 o3 (by rw [o4]; exact fun e => hB ((unit_num0 B).1 e)) (by rw [o2, o4]; exact mg_40 n.1) (by rw [o2, o4]; exact mg_40 n.2)
  rw [o2, o4, frR_ok (okF_40 n.1 n.2)] at c
  exact ⟨c, n⟩
theorem fr_div_any {A B : Int} (h : -19000001000000 ≤ A ∧ A ≤ 19000001000000) (g : -19000001000000 ≤ B ∧ B ≤ 19000001000000) : ∃ (x y : List UInt8) (e : Int), Called Tryz.prog 57 [frT (unit A), frT (unit B)] (.tup [.agg [.str x, .str y], .int .i64 e]) := by
  by_cases hB : B = 0
  · obtain ⟨o1, o2⟩ := unit_ok h
    obtain ⟨o3, o4⟩ := unit_ok g
    exact ⟨_, _, _, fdiv_zero _ _ _ _ o1 o3 (by rw [o4]; exact (unit_num0 B).2 hB)⟩
  · exact ⟨_, _, _, (fr_div h g hB).1⟩
theorem around_pt {A : Int} (h : -19000001000000 ≤ A ∧ A ≤ 19000001000000) : Called Tryz.prog 42 [frT (unit A)] (.tup [.agg [.int .i64 A, .int .i64 A], .int .i64 0]) := by
  obtain ⟨o1, o2⟩ := unit_ok h
  have a1 := around_b (decZ (unit A).num) (dec (unit A).den) o1 (by rw [o2, near_unit]; omega)
  rw [o2, around_unit A (vb_iff.2 (by omega))] at a1
  exact a1
/-- one way of the four -/
def Way (g f : Nat) (p q p2 q2 A B : Int) (a b : D) : Prop := ∃ (x y u w : Int) (v1 v2 : List UInt8), Called Tryz.prog g [bA p q, bA p2 q2] (.tup [.agg [.int .i64 x, .int .i64 y], .int .i64 0]) ∧ Called Tryz.prog g [bA A A, bA B B] (.tup [.agg [.int .i64 u, .int .i64 w], .int .i64 0]) ∧
  Called Tryz.prog f [a, b] (.tup [.agg [.str v1, .str v2], .int .i64 0]) ∧ Called Tryz.prog 44 [bA x y, .agg [.str v1, .str v2]] (.tup [.bool true, .int .i64 0]) ∧
  Called Tryz.prog 58 [bA u w, bA x y] (.bool true) ∧ w - u ≤ 1 ∧ (-1000000000000000000 ≤ u ∧ u ≤ w ∧ w ≤ 1000000000000000000)
theorem way_of {g f : Nat} {p q p2 q2 A B : Int} {r s : Int × Int × Int} {z : Rat} (k : Called Tryz.prog g [bA p q, bA p2 q2] (bD r)) (j : Called Tryz.prog g [bA A A, bA B B] (bD s)) (F : Fr f A B z) (H : Holds3 r s z) : Way g f p q p2 q2 A B (frT (unit A)) (frT (unit B)) := by
  obtain ⟨x, y, u, w, e1, e2, h, i, d, b⟩ := hold_pack H F.2
  rw [e1] at k
  rw [e2] at j
  exact ⟨x, y, u, w, _, _, k, j, F.1, h, i, d, b⟩
theorem bandHolds_c (a w a2 w2 s t : Int) (hs : 0 ≤ s ∧ s ≤ 65535) (ht : 0 ≤ t ∧ t ≤ 65535) :
    Called Tryz.prog 7 [.agg [.int .i64 a, .int .u32 w], .agg [.int .i64 a2, .int .u32 w2], .int .u16 s, .int .u16 t] (.bool true) := by
  have c0 := works_c
  have c1 := smallD_c a w
  have c2 := smallD_c a2 w2
  have hp := sm_bd a w
  have hq := sm_bd a2 w2
  generalize smL a = p at *
  generalize smH a w = q at *
  generalize smL a2 = p2 at *
  generalize smH a2 w2 = q2 at *
  obtain ⟨A, hA⟩ : ∃ A, p + s % (q - p + 1) = A := ⟨_, rfl⟩
  obtain ⟨B, hB⟩ : ∃ B, p2 + t % (q2 - p2 + 1) = B := ⟨_, rfl⟩
  have m1 : 0 ≤ s % (q - p + 1) ∧ s % (q - p + 1) < q - p + 1 := ⟨Int.emod_nonneg _ (by omega), Int.emod_lt_of_pos _ (by omega)⟩
  have m2 : 0 ≤ t % (q2 - p2 + 1) ∧ t % (q2 - p2 + 1) < q2 - p2 + 1 := ⟨Int.emod_nonneg _ (by omega), Int.emod_lt_of_pos _ (by omega)⟩
  have iA : p ≤ A ∧ A ≤ q := by omega
  have iB : p2 ≤ B ∧ B ≤ q2 := by omega
  have jA : -19000001000000 ≤ A ∧ A ≤ 19000001000000 := by omega
  have jB : -19000001000000 ≤ B ∧ B ≤ 19000001000000 := by omega
  have u1 : Called Tryz.prog 49 [.int .i64 A, .int .i64 1000000000000] (.tup [frT (unit A), .int .i64 0]) := of_unit A (by omega)
  have u2 : Called Tryz.prog 49 [.int .i64 B, .int .i64 1000000000000] (.tup [frT (unit B), .int .i64 0]) := of_unit B (by omega)
  have a1 := around_pt jA
  have a2' := around_pt jB
  have hv : vb p q = true ∧ vb p2 q2 = true := ⟨vb_iff.2 (by omega), vb_iff.2 (by omega)⟩
  have hw : vb A A = true ∧ vb B B = true := ⟨vb_iff.2 (by omega), vb_iff.2 (by omega)⟩
  have k0 := add_b p q p2 q2
  have j0 := add_b A A B B
  have k1 := sub_b p q p2 q2
  have j1 := sub_b A A B B
  have k2 := mul_b p q p2 q2
  have j2 := mul_b A A B B
  have k3 := div_b p q p2 q2
  have j3 := div_b A A B B
  have ks := sqr_b p q
  have kp := mul_b p q p q
  rw [if_pos hv] at k0 k1 k2 k3
  rw [if_pos hw] at j0 j1 j2 j3
  rw [if_pos hv.1] at ks
  rw [if_pos ⟨hv.1, hv.1⟩] at kp
  have H0 := holds_add (p := p) (q := q) (p2 := p2) (q2 := q2) (a := A) (b := B) (by omega) (by omega)
  have H1 := holds_sub (p := p) (q := q) (p2 := p2) (q2 := q2) (a := A) (b := B) (by omega) (by omega)
  have H2 := holds_mul (p := p) (q := q) (p2 := p2) (q2 := q2) (a := A) (b := B) (by omega) (by omega)
  have H3 := holds_div (p := p) (q := q) (p2 := p2) (q2 := q2) (a := A) (b := B) (by omega) (by omega)
  obtain ⟨sx, sy, su, sw, es1, es2, hsv, hsh, hs1, hs2⟩ := holds_sqr (p := p) (q := q) (a := A) (by omega)
  have W0 := way_of k0 j0 (fr_add jA jB) H0
  have W1 := way_of k1 j1 (fr_sub jA jB) H1
  have W2 := way_of k2 j2 (fr_mul jA jB) H2
  have W3 : Way 53 57 p q p2 q2 A B (frT (unit A)) (frT (unit B)) ∨ (Called Tryz.prog 53 [bA p q, bA p2 q2] (.tup [.agg [.int .i64 0, .int .i64 0], .int .i64 6]) ∨ Called Tryz.prog 53 [bA p q, bA p2 q2] (.tup [.agg [.int .i64 0, .int .i64 0], .int .i64 7])) := by
    by_cases hz : p2 ≤ 0 ∧ 0 ≤ q2
    · rw [if_pos hz] at k3
      exact .inr (.inr k3)
    · rw [if_neg hz] at k3
      rcases H3 with (⟨H, hB0⟩ | H) | H
      · rw [if_neg (by omega)] at j3
        exact .inl (way_of k3 j3 (fr_div jA jB hB0) H)
      · rw [H] at k3
        exact .inr (.inl k3)
      · exact absurd H hz
  have F4 := fr_mul jA jA
  obtain ⟨G1, G2, G3, G4⟩ := fr_div_any jA jB
  rw [es1] at ks
  rw [es2] at kp
  have hsi := inside_yes hs1 hs2
  obtain ⟨o1, o2⟩ := okP_dec (okF_40 F4.2.1 F4.2.2)
  have hhs := has_ok sx sy _ _ hsv o1
  rw [o2, hsh] at hhs
  have F4 := F4.1
  have ks : Called Tryz.prog 12 [bA p q] (.tup [.agg [.int .i64 sx, .int .i64 sy], .int .i64 0]) := ks
  have kp : Called Tryz.prog 52 [bA p q, bA p q] (.tup [.agg [.int .i64 su, .int .i64 sw], .int .i64 0]) := kp
  clear H0 H1 H2 H3 k0 k1 k2 k3 j0 j1 j2 j3
  unfold Way frT at *
  generalize decZ (unit A).num = A1 at *
  generalize dec (unit A).den = A2 at *
  generalize decZ (unit B).num = B1 at *
  generalize dec (unit B).den = B2 at *
  generalize decZ (unit A * unit A).num = Z1 at *
  generalize dec (unit A * unit A).den = Z2 at *
  clear hv hw hsv hsh hs1 hs2 o1 o2 es1 es2
  refine called_of_run tbOk 6 ⟨Tryz.func7, rfl, rfl, Nat.le_of_ble_eq_true rfl⟩ ?_
  (conv => whnf)
  refine V.st ?_
  repeat ((try ((with_reducible refine .ext ?_); (conv => whnf))); (with_reducible refine call_intro (r := ?_) ?_ ?_); rotate_left; (focus (first | exact (c0))); (conv => whnf); refine V.st ?_)
  refine ⟨(.take 0 (.take 2 (.ev (.cons 1 [2] (.ev (.cons 3 [] (.ev (.cons 4 [] (.ev (.cons 5 [] (.ev (.cons 6 [] (.ev (.cons 7 [] (.done) (.nil))) (.nil))) (.nil))) (.cons 5 [] (.ev (.cons 4 [] (.ev (.cons 6 [] (.ev (.cons 7 [] (.done) (.nil))) (.nil))) (.nil))) (.nil)))) (.cons 4 [2] (.ev (.cons 3 [] (.ev (.cons 5 [] (.ev (.cons 6 [] (.ev (.cons 7 [] (.done) (.nil))) (.nil))) (.nil))) (.cons 5 [2] (.ev (.cons 3 [] (.ev (.cons 6 [] (.ev (.cons 7 [] (.done) (.nil))) (.nil))) (.nil))) (.nil)))) (.cons 5 [2] (.ev (.cons 3 [] (.ev (.cons 4 [] (.ev (.cons 6 [] (.ev (.cons 7 [] (.done) (.nil))) (.nil))) (.nil))) (.cons 4 [2] (.ev (.cons 3 [] (.ev (.cons 6 [] (.ev (.cons 7 [] (.done) (.nil))) (.nil))) (.nil))) (.nil)))) (.nil))))) (.cons 4 [2, 0] (.ev (.cons 1 [2] (.ev (.cons 3 [] (.ev (.cons 5 [] (.ev (.cons 6 [] (.ev (.cons 7 [] (.done) (.nil))) (.nil))) (.nil))) (.cons 5 [2] (.ev (.cons 3 [] (.ev (.cons 6 [] (.ev (.cons 7 [] (.done) (.nil))) (.nil))) (.nil))) (.nil)))) (.cons 5 [2, 0] (.ev (.cons 1 [2] (.ev (.cons 3 [] (.ev (.cons 6 [] (.ev (.cons 7 [] (.done) (.nil))) (.nil))) (.nil))) (.nil))) (.nil)))) (.cons 5 [2, 0] (.ev (.cons 1 [2] (.ev (.cons 3 [] (.ev (.cons 4 [] (.ev (.cons 6 [] (.ev (.cons 7 [] (.done) (.nil))) (.nil))) (.nil))) (.cons 4 [2] (.ev (.cons 3 [] (.ev (.cons 6 [] (.ev (.cons 7 [] (.done) (.nil))) (.nil))) (.nil))) (.nil)))) (.cons 4 [2, 0] (.ev (.cons 1 [2] (.ev (.cons 3 [] (.ev (.cons 6 [] (.ev (.cons 7 [] (.done) (.nil))) (.nil))) (.nil))) (.nil))) (.nil)))) (.nil))))))), ⟨by kernel_rfl, by kernel_rfl, by kernel_rfl⟩, ?_⟩
  refine drw_meet [(9, .box 9 0), (10, .box 10 0)] [(9, .box [.int .i64 p, .int .i64 q]), (10, .box [.int .i64 p2, .int .i64 q2])] ?_ ?_
  · (conv => whnf); (try simp only [Nat.zero_add])
    repeat' (first | exact V.wk | (refine V.s1 ?_; (try simp only [Nat.zero_add])) | ((with_reducible refine recheck_and ?_ ?_); (focus ((conv => whnf); (try simp only [Nat.zero_add]); (repeat (refine V.s1 ?_; (try simp only [Nat.zero_add]))); exact ⟨rfl⟩)); (conv => whnf); (try simp only [Nat.zero_add])) | ((try ((with_reducible refine .ext ?_); (conv => whnf); (try simp only [Nat.zero_add]))); (with_reducible refine call_intro (r := ?_) ?_ ?_); rotate_left; (focus (first | exact (c1) | exact (c2))); (conv => whnf); (try simp only [Nat.zero_add])) | (refine And.intro ?_ ?_ <;> (conv => whnf); (try simp only [Nat.zero_add])))
  (conv => whnf)
  refine V.st ?_
  refine ⟨(.take 0 (.take 1 (.take 2 (.take 3 (.take 4 (.take 5 (.take 6 (.take 7 (.take 8 (.take 9 (.take 10 (.take 11 (.ev (.cons 12 [] (.take 13 (.take 14 (.take 15 (.ev (.cons 16 [15, 14, 13] (.ev (.cons 17 [15] (.take 18 (.done)) (.nil))) (.nil)))))) (.cons 16 [11, 10, 9, 8, 7, 6, 5, 4, 3, 2, 1, 0] (.ev (.cons 12 [] (.take 13 (.take 14 (.take 15 (.ev (.cons 17 [15] (.take 18 (.done)) (.nil)))))) (.nil))) (.nil)))))))))))))))), ⟨by kernel_rfl, by kernel_rfl, by kernel_rfl⟩, ?_⟩
  refine drw_meet [(11, .box 11 0), (12, .int .i64 0)] [(11, .box [.str A1, .str A2])] ?_ ?_
  · (conv => whnf); (try simp only [Nat.zero_add, hA])
    repeat' (first | exact V.wk | (refine V.s1 ?_; (try simp only [Nat.zero_add, hA])) | ((with_reducible refine recheck_and ?_ ?_); (focus ((conv => whnf); (try simp only [Nat.zero_add, hA]); (repeat (refine V.s1 ?_; (try simp only [Nat.zero_add, hA]))); exact ⟨rfl⟩)); (conv => whnf); (try simp only [Nat.zero_add, hA])) | ((try ((with_reducible refine .ext ?_); (conv => whnf); (try simp only [Nat.zero_add, hA]))); (with_reducible refine call_intro (r := ?_) ?_ ?_); rotate_left; (focus (first | exact (u1))); (conv => whnf); (try simp only [Nat.zero_add, hA])) | (refine And.intro ?_ ?_ <;> (conv => whnf); (try simp only [Nat.zero_add, hA])))
  (conv => whnf)
  refine V.st ?_
  refine ⟨(.take 0 (.take 1 (.take 2 (.take 3 (.take 4 (.take 5 (.take 6 (.take 7 (.take 8 (.take 9 (.take 10 (.take 11 (.ev (.cons 12 [] (.take 13 (.take 14 (.take 15 (.ev (.cons 16 [15, 14, 13] (.ev (.cons 17 [15] (.take 18 (.done)) (.nil))) (.nil)))))) (.cons 16 [11, 10, 9, 8, 7, 6, 5, 4, 3, 2, 1, 0] (.ev (.cons 12 [] (.take 13 (.take 14 (.take 15 (.ev (.cons 17 [15] (.take 18 (.done)) (.nil)))))) (.nil))) (.nil)))))))))))))))), ⟨by kernel_rfl, by kernel_rfl, by kernel_rfl⟩, ?_⟩
  refine drw_meet [(13, .box 13 0), (14, .int .i64 0)] [(13, .box [.str B1, .str B2])] ?_ ?_
  · (conv => whnf); (try simp only [Nat.zero_add, hB])
    repeat' (first | exact V.wk | (refine V.s1 ?_; (try simp only [Nat.zero_add, hB])) | ((with_reducible refine recheck_and ?_ ?_); (focus ((conv => whnf); (try simp only [Nat.zero_add, hB]); (repeat (refine V.s1 ?_; (try simp only [Nat.zero_add, hB]))); exact ⟨rfl⟩)); (conv => whnf); (try simp only [Nat.zero_add, hB])) | ((try ((with_reducible refine .ext ?_); (conv => whnf); (try simp only [Nat.zero_add, hB]))); (with_reducible refine call_intro (r := ?_) ?_ ?_); rotate_left; (focus (first | exact (u2))); (conv => whnf); (try simp only [Nat.zero_add, hB])) | (refine And.intro ?_ ?_ <;> (conv => whnf); (try simp only [Nat.zero_add, hB])))
  (conv => whnf)
  refine V.st ?_
  refine lp_any (0 : Nat) (fun k => k ≤ 4) (fun k => 4 - k) (fun k => [(76, .int .i64 k)]) (fun _ => []) ?_ ?_ ?_
  · exact V.wk
  · exact Nat.zero_le _
  intro k hk
  clear c0 c1 c2 u1 u2 hA hB m1 m2
  rcases (by omega : k = 0 ∨ k = 1 ∨ k = 2 ∨ k = 3 ∨ k = 4) with e | e | e | e | e
  · subst e
    (conv => whnf)
    refine V.st ?_
    obtain ⟨x, y, u, w', v1, v2, k, j, f, h, i, d, b⟩ := W0
    (conv => whnf)
    refine V.st ?_
    repeat ((try ((with_reducible refine .ext ?_); (conv => whnf))); (with_reducible refine call_intro (r := ?_) ?_ ?_); rotate_left; (focus (first | exact (k))); (conv => whnf); refine V.st ?_)
    refine ⟨(.take 0 (.take 1 (.take 2 (.take 3 (.take 4 (.ev (.cons 5 [] (.take 6 (.take 7 (.take 8 (.ev (.cons 9 [8, 7, 6] (.ev (.cons 10 [8] (.take 11 (.done)) (.nil))) (.nil)))))) (.cons 9 [4, 3, 2, 1, 0] (.ev (.cons 5 [] (.take 6 (.take 7 (.take 8 (.ev (.cons 10 [8] (.take 11 (.done)) (.nil)))))) (.nil))) (.nil))))))))), ⟨by kernel_rfl, by kernel_rfl, by kernel_rfl⟩, ?_⟩
    refine drw_meet [(19, .box 19 0), (20, .int .i64 0)] [(19, .box [.str v1, .str v2])] ?_ ?_
    · (conv => whnf); (try simp only [Nat.zero_add])
      repeat' (first | exact V.wk | (refine V.s1 ?_; (try simp only [Nat.zero_add])) | ((with_reducible refine recheck_and ?_ ?_); (focus ((conv => whnf); (try simp only [Nat.zero_add]); (repeat (refine V.s1 ?_; (try simp only [Nat.zero_add]))); exact ⟨rfl⟩)); (conv => whnf); (try simp only [Nat.zero_add])) | ((try ((with_reducible refine .ext ?_); (conv => whnf); (try simp only [Nat.zero_add]))); (with_reducible refine call_intro (r := ?_) ?_ ?_); rotate_left; (focus (first | exact (f))); (conv => whnf); (try simp only [Nat.zero_add])) | (refine And.intro ?_ ?_ <;> (conv => whnf); (try simp only [Nat.zero_add])))
    (conv => whnf)
    refine V.st ?_
    repeat ((try ((with_reducible refine .ext ?_); (conv => whnf))); (with_reducible refine call_intro (r := ?_) ?_ ?_); rotate_left; (focus (first | exact (h) | exact (a1) | exact (a2') | exact (j) | exact (i))); (conv => whnf); refine V.st ?_)
    (conv => whnf)
    refine V.st ?_
    repeat ((try ((with_reducible refine .ext ?_); (conv => whnf))); (with_reducible refine call_intro (r := ?_) ?_ ?_); rotate_left; (focus (first | exact (i))); (conv => whnf); refine V.st ?_)
    refine Cnd.split (CondB.mk (fun g => ?_) (fun g => ?_))
    · rw [decide_eq_false (show ¬ (w' - u > 1) by omega)] at g
      simp at g
    · (conv => whnf)
      refine V.st ?_
      exact ⟨1, by omega, by omega, V.wk⟩
  · subst e
    (conv => whnf)
    refine V.st ?_
    obtain ⟨x, y, u, w', v1, v2, k, j, f, h, i, d, b⟩ := W1
    (conv => whnf)
    refine V.st ?_
    repeat ((try ((with_reducible refine .ext ?_); (conv => whnf))); (with_reducible refine call_intro (r := ?_) ?_ ?_); rotate_left; (focus (first | exact (k))); (conv => whnf); refine V.st ?_)
    refine ⟨(.take 0 (.take 1 (.take 2 (.take 3 (.take 4 (.ev (.cons 5 [] (.take 6 (.take 7 (.take 8 (.ev (.cons 9 [8, 7, 6] (.ev (.cons 10 [8] (.take 11 (.done)) (.nil))) (.nil)))))) (.cons 9 [4, 3, 2, 1, 0] (.ev (.cons 5 [] (.take 6 (.take 7 (.take 8 (.ev (.cons 10 [8] (.take 11 (.done)) (.nil)))))) (.nil))) (.nil))))))))), ⟨by kernel_rfl, by kernel_rfl, by kernel_rfl⟩, ?_⟩
    refine drw_meet [(19, .box 19 0), (20, .int .i64 0)] [(19, .box [.str v1, .str v2])] ?_ ?_
    · (conv => whnf); (try simp only [Nat.zero_add])
      repeat' (first | exact V.wk | (refine V.s1 ?_; (try simp only [Nat.zero_add])) | ((with_reducible refine recheck_and ?_ ?_); (focus ((conv => whnf); (try simp only [Nat.zero_add]); (repeat (refine V.s1 ?_; (try simp only [Nat.zero_add]))); exact ⟨rfl⟩)); (conv => whnf); (try simp only [Nat.zero_add])) | ((try ((with_reducible refine .ext ?_); (conv => whnf); (try simp only [Nat.zero_add]))); (with_reducible refine call_intro (r := ?_) ?_ ?_); rotate_left; (focus (first | exact (f))); (conv => whnf); (try simp only [Nat.zero_add])) | (refine And.intro ?_ ?_ <;> (conv => whnf); (try simp only [Nat.zero_add])))
    (conv => whnf)
    refine V.st ?_
    repeat ((try ((with_reducible refine .ext ?_); (conv => whnf))); (with_reducible refine call_intro (r := ?_) ?_ ?_); rotate_left; (focus (first | exact (h) | exact (a1) | exact (a2') | exact (j) | exact (i))); (conv => whnf); refine V.st ?_)
    (conv => whnf)
    refine V.st ?_
    repeat ((try ((with_reducible refine .ext ?_); (conv => whnf))); (with_reducible refine call_intro (r := ?_) ?_ ?_); rotate_left; (focus (first | exact (i))); (conv => whnf); refine V.st ?_)
    refine Cnd.split (CondB.mk (fun g => ?_) (fun g => ?_))
    · rw [decide_eq_false (show ¬ (w' - u > 1) by omega)] at g
      simp at g
    · (conv => whnf)
      refine V.st ?_
      exact ⟨2, by omega, by omega, V.wk⟩
  · subst e
    (conv => whnf)
    refine V.st ?_
    obtain ⟨x, y, u, w', v1, v2, k, j, f, h, i, d, b⟩ := W2
    (conv => whnf)
    refine V.st ?_
    repeat ((try ((with_reducible refine .ext ?_); (conv => whnf))); (with_reducible refine call_intro (r := ?_) ?_ ?_); rotate_left; (focus (first | exact (k))); (conv => whnf); refine V.st ?_)
    refine ⟨(.take 0 (.take 1 (.take 2 (.take 3 (.take 4 (.ev (.cons 5 [] (.take 6 (.take 7 (.take 8 (.ev (.cons 9 [8, 7, 6] (.ev (.cons 10 [8] (.take 11 (.done)) (.nil))) (.nil)))))) (.cons 9 [4, 3, 2, 1, 0] (.ev (.cons 5 [] (.take 6 (.take 7 (.take 8 (.ev (.cons 10 [8] (.take 11 (.done)) (.nil)))))) (.nil))) (.nil))))))))), ⟨by kernel_rfl, by kernel_rfl, by kernel_rfl⟩, ?_⟩
    refine drw_meet [(19, .box 19 0), (20, .int .i64 0)] [(19, .box [.str v1, .str v2])] ?_ ?_
    · (conv => whnf); (try simp only [Nat.zero_add])
      repeat' (first | exact V.wk | (refine V.s1 ?_; (try simp only [Nat.zero_add])) | ((with_reducible refine recheck_and ?_ ?_); (focus ((conv => whnf); (try simp only [Nat.zero_add]); (repeat (refine V.s1 ?_; (try simp only [Nat.zero_add]))); exact ⟨rfl⟩)); (conv => whnf); (try simp only [Nat.zero_add])) | ((try ((with_reducible refine .ext ?_); (conv => whnf); (try simp only [Nat.zero_add]))); (with_reducible refine call_intro (r := ?_) ?_ ?_); rotate_left; (focus (first | exact (f))); (conv => whnf); (try simp only [Nat.zero_add])) | (refine And.intro ?_ ?_ <;> (conv => whnf); (try simp only [Nat.zero_add])))
    (conv => whnf)
    refine V.st ?_
    repeat ((try ((with_reducible refine .ext ?_); (conv => whnf))); (with_reducible refine call_intro (r := ?_) ?_ ?_); rotate_left; (focus (first | exact (h) | exact (a1) | exact (a2') | exact (j) | exact (i))); (conv => whnf); refine V.st ?_)
    (conv => whnf)
    refine V.st ?_
    repeat ((try ((with_reducible refine .ext ?_); (conv => whnf))); (with_reducible refine call_intro (r := ?_) ?_ ?_); rotate_left; (focus (first | exact (i))); (conv => whnf); refine V.st ?_)
    refine Cnd.split (CondB.mk (fun g => ?_) (fun g => ?_))
    · rw [decide_eq_false (show ¬ (w' - u > 1) by omega)] at g
      simp at g
    · (conv => whnf)
      refine V.st ?_
      exact ⟨3, by omega, by omega, V.wk⟩
  · subst e
    (conv => whnf)
    refine V.st ?_
    rcases W3 with W3 | kk | kk
    · obtain ⟨x, y, u, w', v1, v2, k, j, f, h, i, d, b⟩ := W3
      (conv => whnf)
      refine V.st ?_
      repeat ((try ((with_reducible refine .ext ?_); (conv => whnf))); (with_reducible refine call_intro (r := ?_) ?_ ?_); rotate_left; (focus (first | exact (k))); (conv => whnf); refine V.st ?_)
      refine ⟨(.take 0 (.take 1 (.take 2 (.take 3 (.take 4 (.ev (.cons 5 [] (.take 6 (.take 7 (.take 8 (.ev (.cons 9 [8, 7, 6] (.ev (.cons 10 [8] (.take 11 (.done)) (.nil))) (.nil)))))) (.cons 9 [4, 3, 2, 1, 0] (.ev (.cons 5 [] (.take 6 (.take 7 (.take 8 (.ev (.cons 10 [8] (.take 11 (.done)) (.nil)))))) (.nil))) (.nil))))))))), ⟨by kernel_rfl, by kernel_rfl, by kernel_rfl⟩, ?_⟩
      refine drw_meet [(19, .box 19 0), (20, .int .i64 0)] [(19, .box [.str v1, .str v2])] ?_ ?_
      · (conv => whnf); (try simp only [Nat.zero_add])
        repeat' (first | exact V.wk | (refine V.s1 ?_; (try simp only [Nat.zero_add])) | ((with_reducible refine recheck_and ?_ ?_); (focus ((conv => whnf); (try simp only [Nat.zero_add]); (repeat (refine V.s1 ?_; (try simp only [Nat.zero_add]))); exact ⟨rfl⟩)); (conv => whnf); (try simp only [Nat.zero_add])) | ((try ((with_reducible refine .ext ?_); (conv => whnf); (try simp only [Nat.zero_add]))); (with_reducible refine call_intro (r := ?_) ?_ ?_); rotate_left; (focus (first | exact (f))); (conv => whnf); (try simp only [Nat.zero_add])) | (refine And.intro ?_ ?_ <;> (conv => whnf); (try simp only [Nat.zero_add])))
      (conv => whnf)
      refine V.st ?_
      repeat ((try ((with_reducible refine .ext ?_); (conv => whnf))); (with_reducible refine call_intro (r := ?_) ?_ ?_); rotate_left; (focus (first | exact (h) | exact (a1) | exact (a2') | exact (j) | exact (i))); (conv => whnf); refine V.st ?_)
      (conv => whnf)
      refine V.st ?_
      repeat ((try ((with_reducible refine .ext ?_); (conv => whnf))); (with_reducible refine call_intro (r := ?_) ?_ ?_); rotate_left; (focus (first | exact (i))); (conv => whnf); refine V.st ?_)
      refine Cnd.split (CondB.mk (fun g => ?_) (fun g => ?_))
      · rw [decide_eq_false (show ¬ (w' - u > 1) by omega)] at g
        simp at g
      · (conv => whnf)
        refine V.st ?_
        exact ⟨4, by omega, by omega, V.wk⟩
    · (conv => whnf)
      refine V.st ?_
      repeat ((try ((with_reducible refine .ext ?_); (conv => whnf))); (with_reducible refine call_intro (r := ?_) ?_ ?_); rotate_left; (focus (first | exact (kk))); (conv => whnf); refine V.st ?_)
      refine ⟨(.take 0 (.take 1 (.take 2 (.take 3 (.take 4 (.ev (.cons 5 [] (.take 6 (.take 7 (.take 8 (.ev (.cons 9 [8, 7, 6] (.ev (.cons 10 [8] (.take 11 (.done)) (.nil))) (.nil)))))) (.cons 9 [4, 3, 2, 1, 0] (.ev (.cons 5 [] (.take 6 (.take 7 (.take 8 (.ev (.cons 10 [8] (.take 11 (.done)) (.nil)))))) (.nil))) (.nil))))))))), ⟨by kernel_rfl, by kernel_rfl, by kernel_rfl⟩, ?_⟩
      refine drw_meet [(19, .box 19 0), (20, .int .i64 G3)] [(19, .box [.str G1, .str G2])] ?_ ?_
      · (conv => whnf); (try simp only [Nat.zero_add])
        repeat' (first | exact V.wk | (refine V.s1 ?_; (try simp only [Nat.zero_add])) | ((with_reducible refine recheck_and ?_ ?_); (focus ((conv => whnf); (try simp only [Nat.zero_add]); (repeat (refine V.s1 ?_; (try simp only [Nat.zero_add]))); exact ⟨rfl⟩)); (conv => whnf); (try simp only [Nat.zero_add])) | ((try ((with_reducible refine .ext ?_); (conv => whnf); (try simp only [Nat.zero_add]))); (with_reducible refine call_intro (r := ?_) ?_ ?_); rotate_left; (focus (first | exact (G4))); (conv => whnf); (try simp only [Nat.zero_add])) | (refine And.intro ?_ ?_ <;> (conv => whnf); (try simp only [Nat.zero_add])))
      (conv => whnf)
      refine V.st ?_
      exact ⟨4, by omega, by omega, V.wk⟩
    · (conv => whnf)
      refine V.st ?_
      repeat ((try ((with_reducible refine .ext ?_); (conv => whnf))); (with_reducible refine call_intro (r := ?_) ?_ ?_); rotate_left; (focus (first | exact (kk))); (conv => whnf); refine V.st ?_)
      refine ⟨(.take 0 (.take 1 (.take 2 (.take 3 (.take 4 (.ev (.cons 5 [] (.take 6 (.take 7 (.take 8 (.ev (.cons 9 [8, 7, 6] (.ev (.cons 10 [8] (.take 11 (.done)) (.nil))) (.nil)))))) (.cons 9 [4, 3, 2, 1, 0] (.ev (.cons 5 [] (.take 6 (.take 7 (.take 8 (.ev (.cons 10 [8] (.take 11 (.done)) (.nil)))))) (.nil))) (.nil))))))))), ⟨by kernel_rfl, by kernel_rfl, by kernel_rfl⟩, ?_⟩
      refine drw_meet [(19, .box 19 0), (20, .int .i64 G3)] [(19, .box [.str G1, .str G2])] ?_ ?_
      · (conv => whnf); (try simp only [Nat.zero_add])
        repeat' (first | exact V.wk | (refine V.s1 ?_; (try simp only [Nat.zero_add])) | ((with_reducible refine recheck_and ?_ ?_); (focus ((conv => whnf); (try simp only [Nat.zero_add]); (repeat (refine V.s1 ?_; (try simp only [Nat.zero_add]))); exact ⟨rfl⟩)); (conv => whnf); (try simp only [Nat.zero_add])) | ((try ((with_reducible refine .ext ?_); (conv => whnf); (try simp only [Nat.zero_add]))); (with_reducible refine call_intro (r := ?_) ?_ ?_); rotate_left; (focus (first | exact (G4))); (conv => whnf); (try simp only [Nat.zero_add])) | (refine And.intro ?_ ?_ <;> (conv => whnf); (try simp only [Nat.zero_add])))
      (conv => whnf)
      refine V.st ?_
      exact ⟨4, by omega, by omega, V.wk⟩
  · subst e
    (conv => whnf)
    refine V.st ?_
    repeat ((try ((with_reducible refine .ext ?_); (conv => whnf))); (with_reducible refine call_intro (r := ?_) ?_ ?_); rotate_left; (focus (first | exact (ks) | exact (F4) | exact (hhs) | exact (kp) | exact (hsi))); (conv => whnf); refine V.st ?_)
    exact Fin.of (by simp)
end Go.Proofs.YtplflfnfodghmaaGreatDoor
end
