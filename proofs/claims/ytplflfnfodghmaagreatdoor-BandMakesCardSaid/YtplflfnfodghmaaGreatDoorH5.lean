/- What some functions of the program answer at values that mean given lists, texts and numbers, each proved of the program's own code: part 5. Conditions: those that each theorem names. -/
import Derived.Test.YtplflfnfodghmaaGreatDoorH4
import Derived.Test.YtplflfnfodghmaaGreatDoorH2
set_option linter.unusedSimpArgs false
set_option linter.unusedVariables false
set_option maxHeartbeats 8000000
set_option maxRecDepth 100000
section
namespace Go.Proofs.YtplflfnfodghmaaGreatDoor
open Go Go.V Go.Nb
def DivOk : Prop := ∀ hi lo y : Nat, hi < y → lo < 18446744073709551616 → y < 18446744073709551616 → Called Tryz.prog 131 [.int .u64 hi, .int .u64 lo, .int .u64 y] (.tup [.int .u64 ((hi * 18446744073709551616 + lo) / y : Nat), .int .u64 ((hi * 18446744073709551616 + lo) % y : Nat)])
def qneg (x y d : Int) : Bool := !((!(decide (x < 0) == decide (y < 0))) == decide (d < 0))
def qabs (x y d : Int) (up : Bool) : Nat := x.natAbs * y.natAbs / d.natAbs + (if 0 < x.natAbs * y.natAbs % d.natAbs ∧ (up != qneg x y d) = true then 1 else 0)
def qok (x y d : Int) (up : Bool) : Bool := decide (qabs x y d up ≤ 1000000000000000000)
def qval (x y d : Int) (up : Bool) : Int := if qok x y d up = true then (if qneg x y d = true then -(qabs x y d up : Int) else (qabs x y d up : Int)) else 0
theorem quotient_c (D64 : DivOk) (x y d : Int) (up : Bool) (hx : -9223372036854775808 < x ∧ x ≤ 9223372036854775807) (hy : -9223372036854775808 < y ∧ y ≤ 9223372036854775807) (hd : -9223372036854775808 < d ∧ d ≤ 9223372036854775807) (hd0 : d ≠ 0) :
    Called Tryz.prog 71 [.int .i64 x, .int .i64 y, .int .i64 d, .bool up] (.tup [.int .i64 (qval x y d up), .bool (qok x y d up)]) := by
  have s1 := size_c x hx.1
  have s2 := size_c y hy.1
  have s3 := size_c d hd.1
  have m := mul64_c x.natAbs y.natAbs (by omega) (by omega)
  unfold qval qok
  generalize hn : x.natAbs * y.natAbs = n at *
  refine called_of_run tbOk 6 ⟨Tryz.func71, rfl, rfl, Nat.le_of_ble_eq_true rfl⟩ ?_
  (conv => whnf)
  refine V.st ?_
  repeat ((try ((with_reducible refine .ext ?_); (conv => whnf))); (with_reducible refine call_intro (r := ?_) ?_ ?_); rotate_left; (focus (first | exact (s1) | exact (s2) | exact (m) | exact (s3))); (conv => whnf); refine V.st ?_)
  have hdp : 0 < d.natAbs := by omega
  refine Cnd.split (CondB.mk (fun h1 => ?_) (fun h1 => ?_))
  · rw [decide_eq_true_eq] at h1
    have h2 : n / d.natAbs ≥ 18446744073709551616 := by
      refine (Nat.le_div_iff_mul_le hdp).2 ?_
      have h3 := Nat.div_mul_le_self n 18446744073709551616
      have h4 : d.natAbs * 18446744073709551616 ≤ n / 18446744073709551616 * 18446744073709551616 := Nat.mul_le_mul_right _ (by omega)
      omega
    have hq : ¬ qabs x y d up ≤ 1000000000000000000 := by unfold qabs; rw [hn]; omega
    rw [decide_eq_false hq, if_neg (by simp)]
    (conv => whnf)
    refine V.st ?_
    exact Fin.of rfl
  · rw [decide_eq_false_iff_not] at h1
    have k := D64 (n / 18446744073709551616) (n % 18446744073709551616) d.natAbs (by omega) (Nat.mod_lt _ (by omega)) (by omega)
    rw [show n / 18446744073709551616 * 18446744073709551616 + n % 18446744073709551616 = n by omega] at k
    have hqa : qabs x y d up = n / d.natAbs + (if 0 < n % d.natAbs ∧ (up != qneg x y d) = true then 1 else 0) := by unfold qabs; rw [hn]
    have hneg : (!((!(decide (x < 0) == decide (y < 0))) == decide (d < 0))) = qneg x y d := rfl
    rw [hqa]
    have hrm := Nat.mod_lt n hdp
    generalize n / d.natAbs = q at *
    generalize n % d.natAbs = r at *
    generalize qneg x y d = neg at *
    (conv => whnf)
    (try simp only [hneg])
    repeat (first | (refine V.s1 ?_; (try simp only [hneg])) | ((with_reducible refine recheck_and ?_ ?_); (focus ((conv => whnf); (try simp only [hneg]); (repeat (refine V.s1 ?_; (try simp only [hneg]))); exact ⟨rfl⟩)); (conv => whnf); (try simp only [hneg])) | ((try ((with_reducible refine .ext ?_); (conv => whnf); (try simp only [hneg]))); (with_reducible refine call_intro (r := ?_) ?_ ?_); rotate_left; (focus (first | exact (k) | exact (s3))); (conv => whnf); (try simp only [hneg])))
    refine Cnd.split (CondB.mk (fun h2 => ?_) (fun h2 => ?_))
    · rw [decide_eq_true_eq] at h2
      have hq : ¬ q + (if 0 < r ∧ (up != neg) = true then 1 else 0) ≤ 1000000000000000000 := by omega
      rw [decide_eq_false hq, if_neg (by simp)]
      (conv => whnf)
      (try simp only [hneg])
      repeat (first | (refine V.s1 ?_; (try simp only [hneg])) | ((with_reducible refine recheck_and ?_ ?_); (focus ((conv => whnf); (try simp only [hneg]); (repeat (refine V.s1 ?_; (try simp only [hneg]))); exact ⟨rfl⟩)); (conv => whnf); (try simp only [hneg])))
      exact Fin.of rfl
    · rw [decide_eq_false_iff_not] at h2
      (conv => whnf)
      (try simp only [hneg])
      repeat (first | (refine V.s1 ?_; (try simp only [hneg])) | ((with_reducible refine recheck_and ?_ ?_); (focus ((conv => whnf); (try simp only [hneg]); (repeat (refine V.s1 ?_; (try simp only [hneg]))); exact ⟨rfl⟩)); (conv => whnf); (try simp only [hneg])))
      refine Cnd.split (CondB.mk (fun h3 => ?_) (fun h3 => ?_))
      · simp only [Bool.and_eq_true, decide_eq_true_eq] at h3
        have hc : 0 < r ∧ (up != neg) = true := ⟨by omega, h3.2⟩
        rw [if_pos hc]
        obtain ⟨z, hz⟩ : ∃ z : Nat, q + 1 = z := ⟨_, rfl⟩
        have e1 : (q : Int) + 1 = (z : Int) := by omega
        rw [hz]
        (conv => whnf)
        (try simp only [hneg, e1])
        repeat (first | (refine V.s1 ?_; (try simp only [hneg, e1])) | ((with_reducible refine recheck_and ?_ ?_); (focus ((conv => whnf); (try simp only [hneg, e1]); (repeat (refine V.s1 ?_; (try simp only [hneg, e1]))); exact ⟨rfl⟩)); (conv => whnf); (try simp only [hneg, e1])))
        refine Cnd.split (CondB.mk (fun h4 => ?_) (fun h4 => ?_))
        · rw [decide_eq_true_eq] at h4
          rw [decide_eq_false (p := z ≤ 1000000000000000000) (by omega), if_neg (show ¬ (false = true) by simp)]
          (conv => whnf)
          (try simp only [hneg, e1])
          repeat (first | (refine V.s1 ?_; (try simp only [hneg, e1])) | ((with_reducible refine recheck_and ?_ ?_); (focus ((conv => whnf); (try simp only [hneg, e1]); (repeat (refine V.s1 ?_; (try simp only [hneg, e1]))); exact ⟨rfl⟩)); (conv => whnf); (try simp only [hneg, e1])))
          exact Fin.of rfl
        · rw [decide_eq_false_iff_not] at h4
          rw [decide_eq_true (p := z ≤ 1000000000000000000) (by omega), if_pos (show true = true from rfl)]
          cases neg
          · rw [if_neg (by simp)]
            (conv => whnf)
            (try simp only [hneg, e1])
            repeat (first | (refine V.s1 ?_; (try simp only [hneg, e1])) | ((with_reducible refine recheck_and ?_ ?_); (focus ((conv => whnf); (try simp only [hneg, e1]); (repeat (refine V.s1 ?_; (try simp only [hneg, e1]))); exact ⟨rfl⟩)); (conv => whnf); (try simp only [hneg, e1])))
            exact Fin.of rfl
          · rw [if_pos rfl]
            (conv => whnf)
            (try simp only [hneg, e1])
            repeat (first | (refine V.s1 ?_; (try simp only [hneg, e1])) | ((with_reducible refine recheck_and ?_ ?_); (focus ((conv => whnf); (try simp only [hneg, e1]); (repeat (refine V.s1 ?_; (try simp only [hneg, e1]))); exact ⟨rfl⟩)); (conv => whnf); (try simp only [hneg, e1])))
            exact Fin.of (by rw [Int.zero_sub])
      · have hc : ¬ (0 < r ∧ (up != neg) = true) := fun h => by
          rw [decide_eq_true (show (r : Int) > 0 by omega), Bool.true_and] at h3
          have := h.2
          unfold bne at this
          rw [h3] at this; cases this
        rw [if_neg hc, Nat.add_zero]
        (conv => whnf)
        (try simp only [hneg])
        repeat (first | (refine V.s1 ?_; (try simp only [hneg])) | ((with_reducible refine recheck_and ?_ ?_); (focus ((conv => whnf); (try simp only [hneg]); (repeat (refine V.s1 ?_; (try simp only [hneg]))); exact ⟨rfl⟩)); (conv => whnf); (try simp only [hneg])))
        refine Cnd.split (CondB.mk (fun h4 => ?_) (fun h4 => ?_))
        · rw [decide_eq_true_eq] at h4
          rw [decide_eq_false (p := q ≤ 1000000000000000000) (by omega), if_neg (show ¬ (false = true) by simp)]
          (conv => whnf)
          (try simp only [hneg])
          repeat (first | (refine V.s1 ?_; (try simp only [hneg])) | ((with_reducible refine recheck_and ?_ ?_); (focus ((conv => whnf); (try simp only [hneg]); (repeat (refine V.s1 ?_; (try simp only [hneg]))); exact ⟨rfl⟩)); (conv => whnf); (try simp only [hneg])))
          exact Fin.of rfl
        · rw [decide_eq_false_iff_not] at h4
          rw [decide_eq_true (p := q ≤ 1000000000000000000) (by omega), if_pos (show true = true from rfl)]
          have e2 : ((q : Nat) : Int) = (q : Int) := by omega
          rw [e2]
          cases neg
          · rw [if_neg (by simp)]
            (conv => whnf)
            (try simp only [hneg])
            repeat (first | (refine V.s1 ?_; (try simp only [hneg])) | ((with_reducible refine recheck_and ?_ ?_); (focus ((conv => whnf); (try simp only [hneg]); (repeat (refine V.s1 ?_; (try simp only [hneg]))); exact ⟨rfl⟩)); (conv => whnf); (try simp only [hneg])))
            exact Fin.of rfl
          · rw [if_pos rfl]
            (conv => whnf)
            (try simp only [hneg])
            repeat (first | (refine V.s1 ?_; (try simp only [hneg])) | ((with_reducible refine recheck_and ?_ ?_); (focus ((conv => whnf); (try simp only [hneg]); (repeat (refine V.s1 ?_; (try simp only [hneg]))); exact ⟨rfl⟩)); (conv => whnf); (try simp only [hneg])))
            exact Fin.of (by rw [Int.zero_sub])
end Go.Proofs.YtplflfnfodghmaaGreatDoor
end
section
namespace Go.Proofs.YtplflfnfodghmaaGreatDoor
open Go Go.V Go.Nb
def flo (z d : Int) : Int := if 0 < d then z / d else -z / -d
def cei (z d : Int) : Int := -flo (-z) d
theorem nat_cei (n m : Nat) (hm : 0 < m) : -(-(n : Int) / (m : Int)) = ((n / m + (if 0 < n % m then 1 else 0) : Nat) : Int) := by
  have h1 := Nat.div_add_mod n m
  have h2 := Nat.mod_lt n hm
  generalize n / m = a at *
  generalize n % m = b at *
  have h3 : (n : Int) = (m : Int) * a + b := by exact_mod_cast h1.symm
  rw [h3]
  by_cases hb : 0 < b
  · rw [if_pos hb]
    have e : -((m : Int) * a + b) = (m : Int) * (-(a : Int) - 1) + ((m : Int) - b) := by rw [Int.mul_sub, Int.mul_neg]; omega
    rw [e, Int.mul_add_ediv_left _ _ (by omega), Int.ediv_eq_zero_of_lt (by omega) (by omega)]
    omega
  · rw [if_neg hb]
    have hb0 : b = 0 := by omega
    subst hb0
    have e : -((m : Int) * a + ((0 : Nat) : Int)) = (m : Int) * (-(a : Int)) := by rw [Int.mul_neg]; omega
    rw [e, Int.mul_ediv_cancel_left _ (by omega)]
    omega
theorem sign_z (x y d : Int) (hd : d ≠ 0) : (if 0 < d then x * y else -(x * y)) = (if qneg x y d = true then -((x.natAbs * y.natAbs : Nat) : Int) else ((x.natAbs * y.natAbs : Nat) : Int)) := by
  have key : ∀ a b : Nat, ((a * b : Nat) : Int) = (a : Int) * b := fun a b => Int.natCast_mul a b
  rw [key]
  have ex : (x < 0 ∧ (x.natAbs : Int) = -x) ∨ (0 ≤ x ∧ (x.natAbs : Int) = x) := by omega
  have ey : (y < 0 ∧ (y.natAbs : Int) = -y) ∨ (0 ≤ y ∧ (y.natAbs : Int) = y) := by omega
  have ed : d < 0 ∨ 0 < d := by omega
  unfold qneg
  rcases ex with ⟨h1, e1⟩ | ⟨h1, e1⟩ <;> rcases ey with ⟨h2, e2⟩ | ⟨h2, e2⟩ <;> rcases ed with h3 | h3 <;> rw [e1, e2] <;>
    simp [h1, h2, h3, Int.not_lt.2, Int.le_of_lt, Int.neg_mul, Int.mul_neg]
theorem flo_abs (x y d : Int) (hd : d ≠ 0) : flo (x * y) d = if qneg x y d = true then -(qabs x y d false : Int) else (qabs x y d false : Int) := by
  have h := sign_z x y d hd
  have hm : 0 < d.natAbs := by omega
  have e : flo (x * y) d = (if 0 < d then x * y else -(x * y)) / (d.natAbs : Int) := by
    unfold flo
    by_cases hp : 0 < d
    · rw [if_pos hp, if_pos hp, show (d.natAbs : Int) = d by omega]
    · rw [if_neg hp, if_neg hp, show (d.natAbs : Int) = -d by omega]
  rw [e, h]
  unfold qabs
  cases hq : qneg x y d
  · rw [if_neg (by simp), if_neg (by simp)]
    rw [if_neg (by simp)]
    omega
  · rw [if_pos rfl, if_pos rfl]
    have := nat_cei (x.natAbs * y.natAbs) d.natAbs hm
    by_cases hr : 0 < x.natAbs * y.natAbs % d.natAbs
    · rw [if_pos hr] at this
      rw [if_pos ⟨hr, rfl⟩]
      omega
    · rw [if_neg hr] at this
      rw [if_neg (fun h => hr h.1)]
      omega
theorem cei_abs (x y d : Int) (hd : d ≠ 0) : cei (x * y) d = if qneg x y d = true then -(qabs x y d true : Int) else (qabs x y d true : Int) := by
  have h := sign_z x y d hd
  have hm : 0 < d.natAbs := by omega
  have e : flo (-(x * y)) d = -(if 0 < d then x * y else -(x * y)) / (d.natAbs : Int) := by
    unfold flo
    by_cases hp : 0 < d
    · rw [if_pos hp, if_pos hp, show (d.natAbs : Int) = d by omega]
    · rw [if_neg hp, if_neg hp, show (d.natAbs : Int) = -d by omega]
  unfold cei
  rw [e, h]
  unfold qabs
  cases hq : qneg x y d
  · rw [if_neg (by simp), if_neg (by simp)]
    have := nat_cei (x.natAbs * y.natAbs) d.natAbs hm
    by_cases hr : 0 < x.natAbs * y.natAbs % d.natAbs
    · rw [if_pos hr] at this
      rw [if_pos ⟨hr, rfl⟩]
      omega
    · rw [if_neg hr] at this
      rw [if_neg (fun h => hr h.1)]
      omega
  · rw [if_pos rfl, if_pos rfl, Int.neg_neg]
    rw [if_neg (by simp)]
    omega
theorem qok_flo (x y d : Int) (hd : d ≠ 0) : qok x y d false = true ↔ -1000000000000000000 ≤ flo (x * y) d ∧ flo (x * y) d ≤ 1000000000000000000 := by
  rw [flo_abs x y d hd]
  unfold qok
  rw [decide_eq_true_eq]
  split <;> omega
theorem qok_cei (x y d : Int) (hd : d ≠ 0) : qok x y d true = true ↔ -1000000000000000000 ≤ cei (x * y) d ∧ cei (x * y) d ≤ 1000000000000000000 := by
  rw [cei_abs x y d hd]
  unfold qok
  rw [decide_eq_true_eq]
  split <;> omega
theorem qval_flo (x y d : Int) (hd : d ≠ 0) (h : qok x y d false = true) : qval x y d false = flo (x * y) d := by
  rw [flo_abs x y d hd]; unfold qval; rw [if_pos h]
theorem qval_cei (x y d : Int) (hd : d ≠ 0) (h : qok x y d true = true) : qval x y d true = cei (x * y) d := by
  rw [cei_abs x y d hd]; unfold qval; rw [if_pos h]
theorem flo_le_cei (z d : Int) (hd : d ≠ 0) : flo z d ≤ cei z d := by
  have key : ∀ (a m : Int), 0 < m → a / m ≤ -(-a / m) := fun a m hm => by
    have h1 := Int.ediv_mul_le a (b := m) (by omega)
    have h2 := Int.ediv_mul_le (-a) (b := m) (by omega)
    have h3 : (a / m + -a / m) * m ≤ 0 := by rw [Int.add_mul]; omega
    have h4 : a / m + -a / m ≤ 0 := by
      rcases Int.lt_or_le 0 (a / m + -a / m) with h | h
      · have := Int.mul_pos h hm; omega
      · exact h
    omega
  unfold cei flo
  by_cases hp : 0 < d
  · rw [if_pos hp, if_pos hp]; exact key _ _ hp
  · rw [if_neg hp, if_neg hp]; exact key _ _ (by omega)
theorem flo_mono {a b d : Int} (hd : 0 < d) (h : a ≤ b) : flo a d ≤ flo b d := by
  unfold flo; rw [if_pos hd, if_pos hd]; exact Int.ediv_le_ediv hd h
theorem cei_mono {a b d : Int} (hd : 0 < d) (h : a ≤ b) : cei a d ≤ cei b d := by
  unfold cei flo; rw [if_pos hd, if_pos hd]
  have := Int.ediv_le_ediv hd (show -b ≤ -a by omega)
  omega
def mn4 (a b c d : Int) : Int := min (min (min a b) c) d
def mx4 (a b c d : Int) : Int := max (max (max a b) c) d
theorem fits4 {o : Bool} {a b c d a' b' c' d' ea eb ec ed ea' eb' ec' ed' : Int}
    (h1 : a ≤ a') (h2 : b ≤ b') (h3 : c ≤ c') (h4 : d ≤ d')
    (ho : o = true ↔ ((-1000000000000000000 ≤ a ∧ a ≤ 1000000000000000000) ∧ (-1000000000000000000 ≤ a' ∧ a' ≤ 1000000000000000000)) ∧ ((-1000000000000000000 ≤ b ∧ b ≤ 1000000000000000000) ∧ (-1000000000000000000 ≤ b' ∧ b' ≤ 1000000000000000000)) ∧ ((-1000000000000000000 ≤ c ∧ c ≤ 1000000000000000000) ∧ (-1000000000000000000 ≤ c' ∧ c' ≤ 1000000000000000000)) ∧ ((-1000000000000000000 ≤ d ∧ d ≤ 1000000000000000000) ∧ (-1000000000000000000 ≤ d' ∧ d' ≤ 1000000000000000000)))
    (he : o = true → ea = a ∧ eb = b ∧ ec = c ∧ ed = d ∧ ea' = a' ∧ eb' = b' ∧ ec' = c' ∧ ed' = d') :
    (if o = true then mk (mn4 ea eb ec ed) (mx4 ea' eb' ec' ed') else (0, 0, 6)) = mk (mn4 a b c d) (mx4 a' b' c' d') := by
  by_cases hb : o = true
  · obtain ⟨rfl, rfl, rfl, rfl, rfl, rfl, rfl, rfl⟩ := he hb
    rw [if_pos hb]
  · rw [if_neg hb]
    have hn : ¬ vb (mn4 a b c d) (mx4 a' b' c' d') = true := fun h => by
      have h := vb_iff.1 h
      unfold mn4 mx4 at h
      refine hb (ho.2 ?_)
      omega
    unfold mk
    rw [if_neg hn]
end Go.Proofs.YtplflfnfodghmaaGreatDoor
end
section
namespace Go.Proofs.YtplflfnfodghmaaGreatDoor
open Go Go.V Go.Nb
def lw (a b c d : Int) : Nat → List Int
  | 0 => [0, 0, 0, 0]
  | 1 => [a, 0, 0, 0]
  | 2 => [a, b, 0, 0]
  | 3 => [a, b, c, 0]
  | _ => [a, b, c, d]
def nth2 {α : Type} (x y : α) : Nat → α
  | 0 => x
  | _ => y
theorem spread_0 (p q p2 q2 : Int) (g : Nat)  (ev : Int → Int → Bool → Int) (okk : Int → Int → Bool → Bool)
    (hg : ∀ x y u, (x = p ∨ x = q) → (y = p2 ∨ y = q2) → Called Tryz.prog g ([.int .i64 x, .int .i64 y, .bool u] ++ []) (.tup [.int .i64 (ev x y u), .bool (okk x y u)])) :
    Called Tryz.prog 78 [bA p q, bA p2 q2, .fn g [] []] (bD (if (okk p p2 false && okk p p2 true && okk p q2 false && okk p q2 true && okk q p2 false && okk q p2 true && okk q q2 false && okk q q2 true) = true then mk (min (min (min (ev p p2 false) (ev p q2 false)) (ev q p2 false)) (ev q q2 false)) (max (max (max (ev p p2 true) (ev p q2 true)) (ev q p2 true)) (ev q q2 true)) else (0, 0, 6))) := by
  refine called_of_run tbOk 6 ⟨Tryz.func78, rfl, rfl, Nat.le_of_ble_eq_true rfl⟩ ?_
  (conv => whnf)
  refine V.st ?_
  refine lp_exit (β := Bool × List Int × List Int) 0 (fun y => (y.1 = true → (okk p p2 false && okk p p2 true && okk p q2 false && okk p q2 true && okk q p2 false && okk q p2 true && okk q q2 false && okk q q2 true) = true ∧ y.2.1 = lw (ev p p2 false) (ev p q2 false) (ev q p2 false) (ev q q2 false) 4 ∧ y.2.2 = lw (ev p p2 true) (ev p q2 true) (ev q p2 true) (ev q q2 true) 4) ∧ (y.1 = false → (okk p p2 false && okk p p2 true && okk p q2 false && okk p q2 true && okk q p2 false && okk q p2 true && okk q q2 false && okk q q2 true) = false))
    (fun y => [(10, .bool y.1), (24, .any)]) (fun y => [(8, .arr .i64 y.2.1), (9, .arr .i64 y.2.2)]) ?_ ?_
  · refine lp_any (0 : Nat) (fun i => i ≤ 2 ∧ (1 ≤ i → okk p p2 false = true ∧ okk p p2 true = true ∧ okk p q2 false = true ∧ okk p q2 true = true) ∧ (2 ≤ i → okk q p2 false = true ∧ okk q p2 true = true ∧ okk q q2 false = true ∧ okk q q2 true = true)) (fun i => 2 - i)
      (fun i => [(24, .int .i64 i)]) (fun i => [(8, .arr .i64 (lw (ev p p2 false) (ev p q2 false) (ev q p2 false) (ev q q2 false) (2 * i))), (9, .arr .i64 (lw (ev p p2 true) (ev p q2 true) (ev q p2 true) (ev q q2 true) (2 * i)))]) ?_ ?_ ?_
    · exact V.wk
    · exact ⟨by omega, fun h => by omega, fun h => by omega⟩
    intro i hi
    rcases (by omega : i = 0 ∨ i = 1 ∨ i = 2) with e | e | e
    · subst e
      (conv => whnf)
      refine V.st ?_
      refine lp_any (0 : Nat) (fun j => j ≤ 2 ∧ (1 ≤ j → okk p p2 false = true ∧ okk p p2 true = true) ∧ (2 ≤ j → okk p q2 false = true ∧ okk p q2 true = true)) (fun j => 2 - j)
        (fun j => [(33, .int .i64 j)]) (fun j => [(8, .arr .i64 (lw (ev p p2 false) (ev p q2 false) (ev q p2 false) (ev q q2 false) (0 + j))), (9, .arr .i64 (lw (ev p p2 true) (ev p q2 true) (ev q p2 true) (ev q q2 true) (0 + j)))]) ?_ ?_ ?_
      · exact V.wk
      · exact ⟨by omega, fun h => by omega, fun h => by omega⟩
      intro j hj
      rcases (by omega : j = 0 ∨ j = 1 ∨ j = 2) with e | e | e
      · subst e
        have k1 := hg p p2 false (by simp) (by simp)
        have k2 := hg p p2 true (by simp) (by simp)
        obtain ⟨b1, h1⟩ : ∃ b, okk p p2 false = b := ⟨_, rfl⟩
        obtain ⟨b2, h2⟩ : ∃ b, okk p p2 true = b := ⟨_, rfl⟩
        rw [h1] at k1
        rw [h2] at k2
        cases b1 <;> cases b2
        · (conv => whnf)
          (try simp only [Nat.zero_add, Nat.mul_zero, Nat.mul_one, lw, Int.natCast_zero, Int.natCast_one, Int.reduceMul, Int.reduceAdd, Int.reduceToNat, Nat.reduceMul, Nat.reduceAdd, Int.mul_zero, Int.mul_one, Int.add_zero, Int.zero_add, Int.toNat_zero, Int.toNat_one, List.set_cons_zero, List.set_cons_succ, List.length_cons, List.length_nil])
          repeat (first | (refine V.s1 ?_; (try simp only [Nat.zero_add, Nat.mul_zero, Nat.mul_one, lw, Int.natCast_zero, Int.natCast_one, Int.reduceMul, Int.reduceAdd, Int.reduceToNat, Nat.reduceMul, Nat.reduceAdd, Int.mul_zero, Int.mul_one, Int.add_zero, Int.zero_add, Int.toNat_zero, Int.toNat_one, List.set_cons_zero, List.set_cons_succ, List.length_cons, List.length_nil])) | ((with_reducible refine recheck_and ?_ ?_); (focus ((conv => whnf); (try simp only [Nat.zero_add, Nat.mul_zero, Nat.mul_one, lw, Int.natCast_zero, Int.natCast_one, Int.reduceMul, Int.reduceAdd, Int.reduceToNat, Nat.reduceMul, Nat.reduceAdd, Int.mul_zero, Int.mul_one, Int.add_zero, Int.zero_add, Int.toNat_zero, Int.toNat_one, List.set_cons_zero, List.set_cons_succ, List.length_cons, List.length_nil]); (repeat (refine V.s1 ?_; (try simp only [Nat.zero_add, Nat.mul_zero, Nat.mul_one, lw, Int.natCast_zero, Int.natCast_one, Int.reduceMul, Int.reduceAdd, Int.reduceToNat, Nat.reduceMul, Nat.reduceAdd, Int.mul_zero, Int.mul_one, Int.add_zero, Int.zero_add, Int.toNat_zero, Int.toNat_one, List.set_cons_zero, List.set_cons_succ, List.length_cons, List.length_nil]))); exact ⟨rfl⟩)); (conv => whnf); (try simp only [Nat.zero_add, Nat.mul_zero, Nat.mul_one, lw, Int.natCast_zero, Int.natCast_one, Int.reduceMul, Int.reduceAdd, Int.reduceToNat, Nat.reduceMul, Nat.reduceAdd, Int.mul_zero, Int.mul_one, Int.add_zero, Int.zero_add, Int.toNat_zero, Int.toNat_one, List.set_cons_zero, List.set_cons_succ, List.length_cons, List.length_nil])) | ((try ((with_reducible refine .ext ?_); (conv => whnf); (try simp only [Nat.zero_add, Nat.mul_zero, Nat.mul_one, lw, Int.natCast_zero, Int.natCast_one, Int.reduceMul, Int.reduceAdd, Int.reduceToNat, Nat.reduceMul, Nat.reduceAdd, Int.mul_zero, Int.mul_one, Int.add_zero, Int.zero_add, Int.toNat_zero, Int.toNat_one, List.set_cons_zero, List.set_cons_succ, List.length_cons, List.length_nil]))); (with_reducible refine call_intro (r := ?_) ?_ ?_); rotate_left; (focus (first | exact (k1) | exact (k2))); (conv => whnf); (try simp only [Nat.zero_add, Nat.mul_zero, Nat.mul_one, lw, Int.natCast_zero, Int.natCast_one, Int.reduceMul, Int.reduceAdd, Int.reduceToNat, Nat.reduceMul, Nat.reduceAdd, Int.mul_zero, Int.mul_one, Int.add_zero, Int.zero_add, Int.toNat_zero, Int.toNat_one, List.set_cons_zero, List.set_cons_succ, List.length_cons, List.length_nil])))
          exact ⟨(false, lw (ev p p2 false) (ev p q2 false) (ev q p2 false) (ev q q2 false) 0, lw (ev p p2 true) (ev p q2 true) (ev q p2 true) (ev q q2 true) 0), ⟨fun h => (by cases h), fun _ => (by simp [h1, h2])⟩, V.wk⟩
        · (conv => whnf)
          (try simp only [Nat.zero_add, Nat.mul_zero, Nat.mul_one, lw, Int.natCast_zero, Int.natCast_one, Int.reduceMul, Int.reduceAdd, Int.reduceToNat, Nat.reduceMul, Nat.reduceAdd, Int.mul_zero, Int.mul_one, Int.add_zero, Int.zero_add, Int.toNat_zero, Int.toNat_one, List.set_cons_zero, List.set_cons_succ, List.length_cons, List.length_nil])
          repeat (first | (refine V.s1 ?_; (try simp only [Nat.zero_add, Nat.mul_zero, Nat.mul_one, lw, Int.natCast_zero, Int.natCast_one, Int.reduceMul, Int.reduceAdd, Int.reduceToNat, Nat.reduceMul, Nat.reduceAdd, Int.mul_zero, Int.mul_one, Int.add_zero, Int.zero_add, Int.toNat_zero, Int.toNat_one, List.set_cons_zero, List.set_cons_succ, List.length_cons, List.length_nil])) | ((with_reducible refine recheck_and ?_ ?_); (focus ((conv => whnf); (try simp only [Nat.zero_add, Nat.mul_zero, Nat.mul_one, lw, Int.natCast_zero, Int.natCast_one, Int.reduceMul, Int.reduceAdd, Int.reduceToNat, Nat.reduceMul, Nat.reduceAdd, Int.mul_zero, Int.mul_one, Int.add_zero, Int.zero_add, Int.toNat_zero, Int.toNat_one, List.set_cons_zero, List.set_cons_succ, List.length_cons, List.length_nil]); (repeat (refine V.s1 ?_; (try simp only [Nat.zero_add, Nat.mul_zero, Nat.mul_one, lw, Int.natCast_zero, Int.natCast_one, Int.reduceMul, Int.reduceAdd, Int.reduceToNat, Nat.reduceMul, Nat.reduceAdd, Int.mul_zero, Int.mul_one, Int.add_zero, Int.zero_add, Int.toNat_zero, Int.toNat_one, List.set_cons_zero, List.set_cons_succ, List.length_cons, List.length_nil]))); exact ⟨rfl⟩)); (conv => whnf); (try simp only [Nat.zero_add, Nat.mul_zero, Nat.mul_one, lw, Int.natCast_zero, Int.natCast_one, Int.reduceMul, Int.reduceAdd, Int.reduceToNat, Nat.reduceMul, Nat.reduceAdd, Int.mul_zero, Int.mul_one, Int.add_zero, Int.zero_add, Int.toNat_zero, Int.toNat_one, List.set_cons_zero, List.set_cons_succ, List.length_cons, List.length_nil])) | ((try ((with_reducible refine .ext ?_); (conv => whnf); (try simp only [Nat.zero_add, Nat.mul_zero, Nat.mul_one, lw, Int.natCast_zero, Int.natCast_one, Int.reduceMul, Int.reduceAdd, Int.reduceToNat, Nat.reduceMul, Nat.reduceAdd, Int.mul_zero, Int.mul_one, Int.add_zero, Int.zero_add, Int.toNat_zero, Int.toNat_one, List.set_cons_zero, List.set_cons_succ, List.length_cons, List.length_nil]))); (with_reducible refine call_intro (r := ?_) ?_ ?_); rotate_left; (focus (first | exact (k1) | exact (k2))); (conv => whnf); (try simp only [Nat.zero_add, Nat.mul_zero, Nat.mul_one, lw, Int.natCast_zero, Int.natCast_one, Int.reduceMul, Int.reduceAdd, Int.reduceToNat, Nat.reduceMul, Nat.reduceAdd, Int.mul_zero, Int.mul_one, Int.add_zero, Int.zero_add, Int.toNat_zero, Int.toNat_one, List.set_cons_zero, List.set_cons_succ, List.length_cons, List.length_nil])))
          exact ⟨(false, lw (ev p p2 false) (ev p q2 false) (ev q p2 false) (ev q q2 false) 0, lw (ev p p2 true) (ev p q2 true) (ev q p2 true) (ev q q2 true) 0), ⟨fun h => (by cases h), fun _ => (by simp [h1, h2])⟩, V.wk⟩
        · (conv => whnf)
          (try simp only [Nat.zero_add, Nat.mul_zero, Nat.mul_one, lw, Int.natCast_zero, Int.natCast_one, Int.reduceMul, Int.reduceAdd, Int.reduceToNat, Nat.reduceMul, Nat.reduceAdd, Int.mul_zero, Int.mul_one, Int.add_zero, Int.zero_add, Int.toNat_zero, Int.toNat_one, List.set_cons_zero, List.set_cons_succ, List.length_cons, List.length_nil])
          repeat (first | (refine V.s1 ?_; (try simp only [Nat.zero_add, Nat.mul_zero, Nat.mul_one, lw, Int.natCast_zero, Int.natCast_one, Int.reduceMul, Int.reduceAdd, Int.reduceToNat, Nat.reduceMul, Nat.reduceAdd, Int.mul_zero, Int.mul_one, Int.add_zero, Int.zero_add, Int.toNat_zero, Int.toNat_one, List.set_cons_zero, List.set_cons_succ, List.length_cons, List.length_nil])) | ((with_reducible refine recheck_and ?_ ?_); (focus ((conv => whnf); (try simp only [Nat.zero_add, Nat.mul_zero, Nat.mul_one, lw, Int.natCast_zero, Int.natCast_one, Int.reduceMul, Int.reduceAdd, Int.reduceToNat, Nat.reduceMul, Nat.reduceAdd, Int.mul_zero, Int.mul_one, Int.add_zero, Int.zero_add, Int.toNat_zero, Int.toNat_one, List.set_cons_zero, List.set_cons_succ, List.length_cons, List.length_nil]); (repeat (refine V.s1 ?_; (try simp only [Nat.zero_add, Nat.mul_zero, Nat.mul_one, lw, Int.natCast_zero, Int.natCast_one, Int.reduceMul, Int.reduceAdd, Int.reduceToNat, Nat.reduceMul, Nat.reduceAdd, Int.mul_zero, Int.mul_one, Int.add_zero, Int.zero_add, Int.toNat_zero, Int.toNat_one, List.set_cons_zero, List.set_cons_succ, List.length_cons, List.length_nil]))); exact ⟨rfl⟩)); (conv => whnf); (try simp only [Nat.zero_add, Nat.mul_zero, Nat.mul_one, lw, Int.natCast_zero, Int.natCast_one, Int.reduceMul, Int.reduceAdd, Int.reduceToNat, Nat.reduceMul, Nat.reduceAdd, Int.mul_zero, Int.mul_one, Int.add_zero, Int.zero_add, Int.toNat_zero, Int.toNat_one, List.set_cons_zero, List.set_cons_succ, List.length_cons, List.length_nil])) | ((try ((with_reducible refine .ext ?_); (conv => whnf); (try simp only [Nat.zero_add, Nat.mul_zero, Nat.mul_one, lw, Int.natCast_zero, Int.natCast_one, Int.reduceMul, Int.reduceAdd, Int.reduceToNat, Nat.reduceMul, Nat.reduceAdd, Int.mul_zero, Int.mul_one, Int.add_zero, Int.zero_add, Int.toNat_zero, Int.toNat_one, List.set_cons_zero, List.set_cons_succ, List.length_cons, List.length_nil]))); (with_reducible refine call_intro (r := ?_) ?_ ?_); rotate_left; (focus (first | exact (k1) | exact (k2))); (conv => whnf); (try simp only [Nat.zero_add, Nat.mul_zero, Nat.mul_one, lw, Int.natCast_zero, Int.natCast_one, Int.reduceMul, Int.reduceAdd, Int.reduceToNat, Nat.reduceMul, Nat.reduceAdd, Int.mul_zero, Int.mul_one, Int.add_zero, Int.zero_add, Int.toNat_zero, Int.toNat_one, List.set_cons_zero, List.set_cons_succ, List.length_cons, List.length_nil])))
          exact ⟨(false, lw (ev p p2 false) (ev p q2 false) (ev q p2 false) (ev q q2 false) 0, lw (ev p p2 true) (ev p q2 true) (ev q p2 true) (ev q q2 true) 0), ⟨fun h => (by cases h), fun _ => (by simp [h1, h2])⟩, V.wk⟩
        · (conv => whnf)
          (try simp only [Nat.zero_add, Nat.mul_zero, Nat.mul_one, lw, Int.natCast_zero, Int.natCast_one, Int.reduceMul, Int.reduceAdd, Int.reduceToNat, Nat.reduceMul, Nat.reduceAdd, Int.mul_zero, Int.mul_one, Int.add_zero, Int.zero_add, Int.toNat_zero, Int.toNat_one, List.set_cons_zero, List.set_cons_succ, List.length_cons, List.length_nil])
          repeat (first | (refine V.s1 ?_; (try simp only [Nat.zero_add, Nat.mul_zero, Nat.mul_one, lw, Int.natCast_zero, Int.natCast_one, Int.reduceMul, Int.reduceAdd, Int.reduceToNat, Nat.reduceMul, Nat.reduceAdd, Int.mul_zero, Int.mul_one, Int.add_zero, Int.zero_add, Int.toNat_zero, Int.toNat_one, List.set_cons_zero, List.set_cons_succ, List.length_cons, List.length_nil])) | ((with_reducible refine recheck_and ?_ ?_); (focus ((conv => whnf); (try simp only [Nat.zero_add, Nat.mul_zero, Nat.mul_one, lw, Int.natCast_zero, Int.natCast_one, Int.reduceMul, Int.reduceAdd, Int.reduceToNat, Nat.reduceMul, Nat.reduceAdd, Int.mul_zero, Int.mul_one, Int.add_zero, Int.zero_add, Int.toNat_zero, Int.toNat_one, List.set_cons_zero, List.set_cons_succ, List.length_cons, List.length_nil]); (repeat (refine V.s1 ?_; (try simp only [Nat.zero_add, Nat.mul_zero, Nat.mul_one, lw, Int.natCast_zero, Int.natCast_one, Int.reduceMul, Int.reduceAdd, Int.reduceToNat, Nat.reduceMul, Nat.reduceAdd, Int.mul_zero, Int.mul_one, Int.add_zero, Int.zero_add, Int.toNat_zero, Int.toNat_one, List.set_cons_zero, List.set_cons_succ, List.length_cons, List.length_nil]))); exact ⟨rfl⟩)); (conv => whnf); (try simp only [Nat.zero_add, Nat.mul_zero, Nat.mul_one, lw, Int.natCast_zero, Int.natCast_one, Int.reduceMul, Int.reduceAdd, Int.reduceToNat, Nat.reduceMul, Nat.reduceAdd, Int.mul_zero, Int.mul_one, Int.add_zero, Int.zero_add, Int.toNat_zero, Int.toNat_one, List.set_cons_zero, List.set_cons_succ, List.length_cons, List.length_nil])) | ((try ((with_reducible refine .ext ?_); (conv => whnf); (try simp only [Nat.zero_add, Nat.mul_zero, Nat.mul_one, lw, Int.natCast_zero, Int.natCast_one, Int.reduceMul, Int.reduceAdd, Int.reduceToNat, Nat.reduceMul, Nat.reduceAdd, Int.mul_zero, Int.mul_one, Int.add_zero, Int.zero_add, Int.toNat_zero, Int.toNat_one, List.set_cons_zero, List.set_cons_succ, List.length_cons, List.length_nil]))); (with_reducible refine call_intro (r := ?_) ?_ ?_); rotate_left; (focus (first | exact (k1) | exact (k2))); (conv => whnf); (try simp only [Nat.zero_add, Nat.mul_zero, Nat.mul_one, lw, Int.natCast_zero, Int.natCast_one, Int.reduceMul, Int.reduceAdd, Int.reduceToNat, Nat.reduceMul, Nat.reduceAdd, Int.mul_zero, Int.mul_one, Int.add_zero, Int.zero_add, Int.toNat_zero, Int.toNat_one, List.set_cons_zero, List.set_cons_succ, List.length_cons, List.length_nil])))
          exact ⟨1, ⟨by omega, fun _ => ⟨h1, h2⟩, fun _ => by omega⟩, by omega, V.wk⟩
      · subst e
        have k1 := hg p q2 false (by simp) (by simp)
        have k2 := hg p q2 true (by simp) (by simp)
        obtain ⟨b1, h1⟩ : ∃ b, okk p q2 false = b := ⟨_, rfl⟩
        obtain ⟨b2, h2⟩ : ∃ b, okk p q2 true = b := ⟨_, rfl⟩
        rw [h1] at k1
        rw [h2] at k2
        cases b1 <;> cases b2
        · (conv => whnf)
          (try simp only [Nat.zero_add, Nat.mul_zero, Nat.mul_one, lw, Int.natCast_zero, Int.natCast_one, Int.reduceMul, Int.reduceAdd, Int.reduceToNat, Nat.reduceMul, Nat.reduceAdd, Int.mul_zero, Int.mul_one, Int.add_zero, Int.zero_add, Int.toNat_zero, Int.toNat_one, List.set_cons_zero, List.set_cons_succ, List.length_cons, List.length_nil])
          repeat (first | (refine V.s1 ?_; (try simp only [Nat.zero_add, Nat.mul_zero, Nat.mul_one, lw, Int.natCast_zero, Int.natCast_one, Int.reduceMul, Int.reduceAdd, Int.reduceToNat, Nat.reduceMul, Nat.reduceAdd, Int.mul_zero, Int.mul_one, Int.add_zero, Int.zero_add, Int.toNat_zero, Int.toNat_one, List.set_cons_zero, List.set_cons_succ, List.length_cons, List.length_nil])) | ((with_reducible refine recheck_and ?_ ?_); (focus ((conv => whnf); (try simp only [Nat.zero_add, Nat.mul_zero, Nat.mul_one, lw, Int.natCast_zero, Int.natCast_one, Int.reduceMul, Int.reduceAdd, Int.reduceToNat, Nat.reduceMul, Nat.reduceAdd, Int.mul_zero, Int.mul_one, Int.add_zero, Int.zero_add, Int.toNat_zero, Int.toNat_one, List.set_cons_zero, List.set_cons_succ, List.length_cons, List.length_nil]); (repeat (refine V.s1 ?_; (try simp only [Nat.zero_add, Nat.mul_zero, Nat.mul_one, lw, Int.natCast_zero, Int.natCast_one, Int.reduceMul, Int.reduceAdd, Int.reduceToNat, Nat.reduceMul, Nat.reduceAdd, Int.mul_zero, Int.mul_one, Int.add_zero, Int.zero_add, Int.toNat_zero, Int.toNat_one, List.set_cons_zero, List.set_cons_succ, List.length_cons, List.length_nil]))); exact ⟨rfl⟩)); (conv => whnf); (try simp only [Nat.zero_add, Nat.mul_zero, Nat.mul_one, lw, Int.natCast_zero, Int.natCast_one, Int.reduceMul, Int.reduceAdd, Int.reduceToNat, Nat.reduceMul, Nat.reduceAdd, Int.mul_zero, Int.mul_one, Int.add_zero, Int.zero_add, Int.toNat_zero, Int.toNat_one, List.set_cons_zero, List.set_cons_succ, List.length_cons, List.length_nil])) | ((try ((with_reducible refine .ext ?_); (conv => whnf); (try simp only [Nat.zero_add, Nat.mul_zero, Nat.mul_one, lw, Int.natCast_zero, Int.natCast_one, Int.reduceMul, Int.reduceAdd, Int.reduceToNat, Nat.reduceMul, Nat.reduceAdd, Int.mul_zero, Int.mul_one, Int.add_zero, Int.zero_add, Int.toNat_zero, Int.toNat_one, List.set_cons_zero, List.set_cons_succ, List.length_cons, List.length_nil]))); (with_reducible refine call_intro (r := ?_) ?_ ?_); rotate_left; (focus (first | exact (k1) | exact (k2))); (conv => whnf); (try simp only [Nat.zero_add, Nat.mul_zero, Nat.mul_one, lw, Int.natCast_zero, Int.natCast_one, Int.reduceMul, Int.reduceAdd, Int.reduceToNat, Nat.reduceMul, Nat.reduceAdd, Int.mul_zero, Int.mul_one, Int.add_zero, Int.zero_add, Int.toNat_zero, Int.toNat_one, List.set_cons_zero, List.set_cons_succ, List.length_cons, List.length_nil])))
          exact ⟨(false, lw (ev p p2 false) (ev p q2 false) (ev q p2 false) (ev q q2 false) 1, lw (ev p p2 true) (ev p q2 true) (ev q p2 true) (ev q q2 true) 1), ⟨fun h => (by cases h), fun _ => (by simp [h1, h2])⟩, V.wk⟩
        · (conv => whnf)
          (try simp only [Nat.zero_add, Nat.mul_zero, Nat.mul_one, lw, Int.natCast_zero, Int.natCast_one, Int.reduceMul, Int.reduceAdd, Int.reduceToNat, Nat.reduceMul, Nat.reduceAdd, Int.mul_zero, Int.mul_one, Int.add_zero, Int.zero_add, Int.toNat_zero, Int.toNat_one, List.set_cons_zero, List.set_cons_succ, List.length_cons, List.length_nil])
          repeat (first | (refine V.s1 ?_; (try simp only [Nat.zero_add, Nat.mul_zero, Nat.mul_one, lw, Int.natCast_zero, Int.natCast_one, Int.reduceMul, Int.reduceAdd, Int.reduceToNat, Nat.reduceMul, Nat.reduceAdd, Int.mul_zero, Int.mul_one, Int.add_zero, Int.zero_add, Int.toNat_zero, Int.toNat_one, List.set_cons_zero, List.set_cons_succ, List.length_cons, List.length_nil])) | ((with_reducible refine recheck_and ?_ ?_); (focus ((conv => whnf); (try simp only [Nat.zero_add, Nat.mul_zero, Nat.mul_one, lw, Int.natCast_zero, Int.natCast_one, Int.reduceMul, Int.reduceAdd, Int.reduceToNat, Nat.reduceMul, Nat.reduceAdd, Int.mul_zero, Int.mul_one, Int.add_zero, Int.zero_add, Int.toNat_zero, Int.toNat_one, List.set_cons_zero, List.set_cons_succ, List.length_cons, List.length_nil]); (repeat (refine V.s1 ?_; (try simp only [Nat.zero_add, Nat.mul_zero, Nat.mul_one, lw, Int.natCast_zero, Int.natCast_one, Int.reduceMul, Int.reduceAdd, Int.reduceToNat, Nat.reduceMul, Nat.reduceAdd, Int.mul_zero, Int.mul_one, Int.add_zero, Int.zero_add, Int.toNat_zero, Int.toNat_one, List.set_cons_zero, List.set_cons_succ, List.length_cons, List.length_nil]))); exact ⟨rfl⟩)); (conv => whnf); (try simp only [Nat.zero_add, Nat.mul_zero, Nat.mul_one, lw, Int.natCast_zero, Int.natCast_one, Int.reduceMul, Int.reduceAdd, Int.reduceToNat, Nat.reduceMul, Nat.reduceAdd, Int.mul_zero, Int.mul_one, Int.add_zero, Int.zero_add, Int.toNat_zero, Int.toNat_one, List.set_cons_zero, List.set_cons_succ, List.length_cons, List.length_nil])) | ((try ((with_reducible refine .ext ?_); (conv => whnf); (try simp only [Nat.zero_add, Nat.mul_zero, Nat.mul_one, lw, Int.natCast_zero, Int.natCast_one, Int.reduceMul, Int.reduceAdd, Int.reduceToNat, Nat.reduceMul, Nat.reduceAdd, Int.mul_zero, Int.mul_one, Int.add_zero, Int.zero_add, Int.toNat_zero, Int.toNat_one, List.set_cons_zero, List.set_cons_succ, List.length_cons, List.length_nil]))); (with_reducible refine call_intro (r := ?_) ?_ ?_); rotate_left; (focus (first | exact (k1) | exact (k2))); (conv => whnf); (try simp only [Nat.zero_add, Nat.mul_zero, Nat.mul_one, lw, Int.natCast_zero, Int.natCast_one, Int.reduceMul, Int.reduceAdd, Int.reduceToNat, Nat.reduceMul, Nat.reduceAdd, Int.mul_zero, Int.mul_one, Int.add_zero, Int.zero_add, Int.toNat_zero, Int.toNat_one, List.set_cons_zero, List.set_cons_succ, List.length_cons, List.length_nil])))
          exact ⟨(false, lw (ev p p2 false) (ev p q2 false) (ev q p2 false) (ev q q2 false) 1, lw (ev p p2 true) (ev p q2 true) (ev q p2 true) (ev q q2 true) 1), ⟨fun h => (by cases h), fun _ => (by simp [h1, h2])⟩, V.wk⟩
        · (conv => whnf)
          (try simp only [Nat.zero_add, Nat.mul_zero, Nat.mul_one, lw, Int.natCast_zero, Int.natCast_one, Int.reduceMul, Int.reduceAdd, Int.reduceToNat, Nat.reduceMul, Nat.reduceAdd, Int.mul_zero, Int.mul_one, Int.add_zero, Int.zero_add, Int.toNat_zero, Int.toNat_one, List.set_cons_zero, List.set_cons_succ, List.length_cons, List.length_nil])
          repeat (first | (refine V.s1 ?_; (try simp only [Nat.zero_add, Nat.mul_zero, Nat.mul_one, lw, Int.natCast_zero, Int.natCast_one, Int.reduceMul, Int.reduceAdd, Int.reduceToNat, Nat.reduceMul, Nat.reduceAdd, Int.mul_zero, Int.mul_one, Int.add_zero, Int.zero_add, Int.toNat_zero, Int.toNat_one, List.set_cons_zero, List.set_cons_succ, List.length_cons, List.length_nil])) | ((with_reducible refine recheck_and ?_ ?_); (focus ((conv => whnf); (try simp only [Nat.zero_add, Nat.mul_zero, Nat.mul_one, lw, Int.natCast_zero, Int.natCast_one, Int.reduceMul, Int.reduceAdd, Int.reduceToNat, Nat.reduceMul, Nat.reduceAdd, Int.mul_zero, Int.mul_one, Int.add_zero, Int.zero_add, Int.toNat_zero, Int.toNat_one, List.set_cons_zero, List.set_cons_succ, List.length_cons, List.length_nil]); (repeat (refine V.s1 ?_; (try simp only [Nat.zero_add, Nat.mul_zero, Nat.mul_one, lw, Int.natCast_zero, Int.natCast_one, Int.reduceMul, Int.reduceAdd, Int.reduceToNat, Nat.reduceMul, Nat.reduceAdd, Int.mul_zero, Int.mul_one, Int.add_zero, Int.zero_add, Int.toNat_zero, Int.toNat_one, List.set_cons_zero, List.set_cons_succ, List.length_cons, List.length_nil]))); exact ⟨rfl⟩)); (conv => whnf); (try simp only [Nat.zero_add, Nat.mul_zero, Nat.mul_one, lw, Int.natCast_zero, Int.natCast_one, Int.reduceMul, Int.reduceAdd, Int.reduceToNat, Nat.reduceMul, Nat.reduceAdd, Int.mul_zero, Int.mul_one, Int.add_zero, Int.zero_add, Int.toNat_zero, Int.toNat_one, List.set_cons_zero, List.set_cons_succ, List.length_cons, List.length_nil])) | ((try ((with_reducible refine .ext ?_); (conv => whnf); (try simp only [Nat.zero_add, Nat.mul_zero, Nat.mul_one, lw, Int.natCast_zero, Int.natCast_one, Int.reduceMul, Int.reduceAdd, Int.reduceToNat, Nat.reduceMul, Nat.reduceAdd, Int.mul_zero, Int.mul_one, Int.add_zero, Int.zero_add, Int.toNat_zero, Int.toNat_one, List.set_cons_zero, List.set_cons_succ, List.length_cons, List.length_nil]))); (with_reducible refine call_intro (r := ?_) ?_ ?_); rotate_left; (focus (first | exact (k1) | exact (k2))); (conv => whnf); (try simp only [Nat.zero_add, Nat.mul_zero, Nat.mul_one, lw, Int.natCast_zero, Int.natCast_one, Int.reduceMul, Int.reduceAdd, Int.reduceToNat, Nat.reduceMul, Nat.reduceAdd, Int.mul_zero, Int.mul_one, Int.add_zero, Int.zero_add, Int.toNat_zero, Int.toNat_one, List.set_cons_zero, List.set_cons_succ, List.length_cons, List.length_nil])))
          exact ⟨(false, lw (ev p p2 false) (ev p q2 false) (ev q p2 false) (ev q q2 false) 1, lw (ev p p2 true) (ev p q2 true) (ev q p2 true) (ev q q2 true) 1), ⟨fun h => (by cases h), fun _ => (by simp [h1, h2])⟩, V.wk⟩
        · (conv => whnf)
          (try simp only [Nat.zero_add, Nat.mul_zero, Nat.mul_one, lw, Int.natCast_zero, Int.natCast_one, Int.reduceMul, Int.reduceAdd, Int.reduceToNat, Nat.reduceMul, Nat.reduceAdd, Int.mul_zero, Int.mul_one, Int.add_zero, Int.zero_add, Int.toNat_zero, Int.toNat_one, List.set_cons_zero, List.set_cons_succ, List.length_cons, List.length_nil])
          repeat (first | (refine V.s1 ?_; (try simp only [Nat.zero_add, Nat.mul_zero, Nat.mul_one, lw, Int.natCast_zero, Int.natCast_one, Int.reduceMul, Int.reduceAdd, Int.reduceToNat, Nat.reduceMul, Nat.reduceAdd, Int.mul_zero, Int.mul_one, Int.add_zero, Int.zero_add, Int.toNat_zero, Int.toNat_one, List.set_cons_zero, List.set_cons_succ, List.length_cons, List.length_nil])) | ((with_reducible refine recheck_and ?_ ?_); (focus ((conv => whnf); (try simp only [Nat.zero_add, Nat.mul_zero, Nat.mul_one, lw, Int.natCast_zero, Int.natCast_one, Int.reduceMul, Int.reduceAdd, Int.reduceToNat, Nat.reduceMul, Nat.reduceAdd, Int.mul_zero, Int.mul_one, Int.add_zero, Int.zero_add, Int.toNat_zero, Int.toNat_one, List.set_cons_zero, List.set_cons_succ, List.length_cons, List.length_nil]); (repeat (refine V.s1 ?_; (try simp only [Nat.zero_add, Nat.mul_zero, Nat.mul_one, lw, Int.natCast_zero, Int.natCast_one, Int.reduceMul, Int.reduceAdd, Int.reduceToNat, Nat.reduceMul, Nat.reduceAdd, Int.mul_zero, Int.mul_one, Int.add_zero, Int.zero_add, Int.toNat_zero, Int.toNat_one, List.set_cons_zero, List.set_cons_succ, List.length_cons, List.length_nil]))); exact ⟨rfl⟩)); (conv => whnf); (try simp only [Nat.zero_add, Nat.mul_zero, Nat.mul_one, lw, Int.natCast_zero, Int.natCast_one, Int.reduceMul, Int.reduceAdd, Int.reduceToNat, Nat.reduceMul, Nat.reduceAdd, Int.mul_zero, Int.mul_one, Int.add_zero, Int.zero_add, Int.toNat_zero, Int.toNat_one, List.set_cons_zero, List.set_cons_succ, List.length_cons, List.length_nil])) | ((try ((with_reducible refine .ext ?_); (conv => whnf); (try simp only [Nat.zero_add, Nat.mul_zero, Nat.mul_one, lw, Int.natCast_zero, Int.natCast_one, Int.reduceMul, Int.reduceAdd, Int.reduceToNat, Nat.reduceMul, Nat.reduceAdd, Int.mul_zero, Int.mul_one, Int.add_zero, Int.zero_add, Int.toNat_zero, Int.toNat_one, List.set_cons_zero, List.set_cons_succ, List.length_cons, List.length_nil]))); (with_reducible refine call_intro (r := ?_) ?_ ?_); rotate_left; (focus (first | exact (k1) | exact (k2))); (conv => whnf); (try simp only [Nat.zero_add, Nat.mul_zero, Nat.mul_one, lw, Int.natCast_zero, Int.natCast_one, Int.reduceMul, Int.reduceAdd, Int.reduceToNat, Nat.reduceMul, Nat.reduceAdd, Int.mul_zero, Int.mul_one, Int.add_zero, Int.zero_add, Int.toNat_zero, Int.toNat_one, List.set_cons_zero, List.set_cons_succ, List.length_cons, List.length_nil])))
          exact ⟨2, ⟨by omega, fun _ => hj.2.1 (by omega), fun _ => ⟨h1, h2⟩⟩, by omega, V.wk⟩
      · subst e
        have o1 := hj.2.1 (by omega)
        have o2 := hj.2.2 (by omega)
        (conv => whnf)
        refine V.st ?_
        exact ⟨1, ⟨by omega, fun _ => ⟨o1.1, o1.2, o2.1, o2.2⟩, fun _ => by omega⟩, by omega, V.wk⟩
    · subst e
      (conv => whnf)
      refine V.st ?_
      refine lp_any (0 : Nat) (fun j => j ≤ 2 ∧ (1 ≤ j → okk q p2 false = true ∧ okk q p2 true = true) ∧ (2 ≤ j → okk q q2 false = true ∧ okk q q2 true = true)) (fun j => 2 - j)
        (fun j => [(33, .int .i64 j)]) (fun j => [(8, .arr .i64 (lw (ev p p2 false) (ev p q2 false) (ev q p2 false) (ev q q2 false) (2 + j))), (9, .arr .i64 (lw (ev p p2 true) (ev p q2 true) (ev q p2 true) (ev q q2 true) (2 + j)))]) ?_ ?_ ?_
      · exact V.wk
      · exact ⟨by omega, fun h => by omega, fun h => by omega⟩
      intro j hj
      rcases (by omega : j = 0 ∨ j = 1 ∨ j = 2) with e | e | e
      · subst e
        have k1 := hg q p2 false (by simp) (by simp)
        have k2 := hg q p2 true (by simp) (by simp)
        obtain ⟨b1, h1⟩ : ∃ b, okk q p2 false = b := ⟨_, rfl⟩
        obtain ⟨b2, h2⟩ : ∃ b, okk q p2 true = b := ⟨_, rfl⟩
        rw [h1] at k1
        rw [h2] at k2
        cases b1 <;> cases b2
        · (conv => whnf)
          (try simp only [Nat.zero_add, Nat.mul_zero, Nat.mul_one, lw, Int.natCast_zero, Int.natCast_one, Int.reduceMul, Int.reduceAdd, Int.reduceToNat, Nat.reduceMul, Nat.reduceAdd, Int.mul_zero, Int.mul_one, Int.add_zero, Int.zero_add, Int.toNat_zero, Int.toNat_one, List.set_cons_zero, List.set_cons_succ, List.length_cons, List.length_nil])
          repeat (first | (refine V.s1 ?_; (try simp only [Nat.zero_add, Nat.mul_zero, Nat.mul_one, lw, Int.natCast_zero, Int.natCast_one, Int.reduceMul, Int.reduceAdd, Int.reduceToNat, Nat.reduceMul, Nat.reduceAdd, Int.mul_zero, Int.mul_one, Int.add_zero, Int.zero_add, Int.toNat_zero, Int.toNat_one, List.set_cons_zero, List.set_cons_succ, List.length_cons, List.length_nil])) | ((with_reducible refine recheck_and ?_ ?_); (focus ((conv => whnf); (try simp only [Nat.zero_add, Nat.mul_zero, Nat.mul_one, lw, Int.natCast_zero, Int.natCast_one, Int.reduceMul, Int.reduceAdd, Int.reduceToNat, Nat.reduceMul, Nat.reduceAdd, Int.mul_zero, Int.mul_one, Int.add_zero, Int.zero_add, Int.toNat_zero, Int.toNat_one, List.set_cons_zero, List.set_cons_succ, List.length_cons, List.length_nil]); (repeat (refine V.s1 ?_; (try simp only [Nat.zero_add, Nat.mul_zero, Nat.mul_one, lw, Int.natCast_zero, Int.natCast_one, Int.reduceMul, Int.reduceAdd, Int.reduceToNat, Nat.reduceMul, Nat.reduceAdd, Int.mul_zero, Int.mul_one, Int.add_zero, Int.zero_add, Int.toNat_zero, Int.toNat_one, List.set_cons_zero, List.set_cons_succ, List.length_cons, List.length_nil]))); exact ⟨rfl⟩)); (conv => whnf); (try simp only [Nat.zero_add, Nat.mul_zero, Nat.mul_one, lw, Int.natCast_zero, Int.natCast_one, Int.reduceMul, Int.reduceAdd, Int.reduceToNat, Nat.reduceMul, Nat.reduceAdd, Int.mul_zero, Int.mul_one, Int.add_zero, Int.zero_add, Int.toNat_zero, Int.toNat_one, List.set_cons_zero, List.set_cons_succ, List.length_cons, List.length_nil])) | ((try ((with_reducible refine .ext ?_); (conv => whnf); (try simp only [Nat.zero_add, Nat.mul_zero, Nat.mul_one, lw, Int.natCast_zero, Int.natCast_one, Int.reduceMul, Int.reduceAdd, Int.reduceToNat, Nat.reduceMul, Nat.reduceAdd, Int.mul_zero, Int.mul_one, Int.add_zero, Int.zero_add, Int.toNat_zero, Int.toNat_one, List.set_cons_zero, List.set_cons_succ, List.length_cons, List.length_nil]))); (with_reducible refine call_intro (r := ?_) ?_ ?_); rotate_left; (focus (first | exact (k1) | exact (k2))); (conv => whnf); (try simp only [Nat.zero_add, Nat.mul_zero, Nat.mul_one, lw, Int.natCast_zero, Int.natCast_one, Int.reduceMul, Int.reduceAdd, Int.reduceToNat, Nat.reduceMul, Nat.reduceAdd, Int.mul_zero, Int.mul_one, Int.add_zero, Int.zero_add, Int.toNat_zero, Int.toNat_one, List.set_cons_zero, List.set_cons_succ, List.length_cons, List.length_nil])))
          exact ⟨(false, lw (ev p p2 false) (ev p q2 false) (ev q p2 false) (ev q q2 false) 2, lw (ev p p2 true) (ev p q2 true) (ev q p2 true) (ev q q2 true) 2), ⟨fun h => (by cases h), fun _ => (by simp [h1, h2])⟩, V.wk⟩
        · (conv => whnf)
          (try simp only [Nat.zero_add, Nat.mul_zero, Nat.mul_one, lw, Int.natCast_zero, Int.natCast_one, Int.reduceMul, Int.reduceAdd, Int.reduceToNat, Nat.reduceMul, Nat.reduceAdd, Int.mul_zero, Int.mul_one, Int.add_zero, Int.zero_add, Int.toNat_zero, Int.toNat_one, List.set_cons_zero, List.set_cons_succ, List.length_cons, List.length_nil])
          repeat (first | (refine V.s1 ?_; (try simp only [Nat.zero_add, Nat.mul_zero, Nat.mul_one, lw, Int.natCast_zero, Int.natCast_one, Int.reduceMul, Int.reduceAdd, Int.reduceToNat, Nat.reduceMul, Nat.reduceAdd, Int.mul_zero, Int.mul_one, Int.add_zero, Int.zero_add, Int.toNat_zero, Int.toNat_one, List.set_cons_zero, List.set_cons_succ, List.length_cons, List.length_nil])) | ((with_reducible refine recheck_and ?_ ?_); (focus ((conv => whnf); (try simp only [Nat.zero_add, Nat.mul_zero, Nat.mul_one, lw, Int.natCast_zero, Int.natCast_one, Int.reduceMul, Int.reduceAdd, Int.reduceToNat, Nat.reduceMul, Nat.reduceAdd, Int.mul_zero, Int.mul_one, Int.add_zero, Int.zero_add, Int.toNat_zero, Int.toNat_one, List.set_cons_zero, List.set_cons_succ, List.length_cons, List.length_nil]); (repeat (refine V.s1 ?_; (try simp only [Nat.zero_add, Nat.mul_zero, Nat.mul_one, lw, Int.natCast_zero, Int.natCast_one, Int.reduceMul, Int.reduceAdd, Int.reduceToNat, Nat.reduceMul, Nat.reduceAdd, Int.mul_zero, Int.mul_one, Int.add_zero, Int.zero_add, Int.toNat_zero, Int.toNat_one, List.set_cons_zero, List.set_cons_succ, List.length_cons, List.length_nil]))); exact ⟨rfl⟩)); (conv => whnf); (try simp only [Nat.zero_add, Nat.mul_zero, Nat.mul_one, lw, Int.natCast_zero, Int.natCast_one, Int.reduceMul, Int.reduceAdd, Int.reduceToNat, Nat.reduceMul, Nat.reduceAdd, Int.mul_zero, Int.mul_one, Int.add_zero, Int.zero_add, Int.toNat_zero, Int.toNat_one, List.set_cons_zero, List.set_cons_succ, List.length_cons, List.length_nil])) | ((try ((with_reducible refine .ext ?_); (conv => whnf); (try simp only [Nat.zero_add, Nat.mul_zero, Nat.mul_one, lw, Int.natCast_zero, Int.natCast_one, Int.reduceMul, Int.reduceAdd, Int.reduceToNat, Nat.reduceMul, Nat.reduceAdd, Int.mul_zero, Int.mul_one, Int.add_zero, Int.zero_add, Int.toNat_zero, Int.toNat_one, List.set_cons_zero, List.set_cons_succ, List.length_cons, List.length_nil]))); (with_reducible refine call_intro (r := ?_) ?_ ?_); rotate_left; (focus (first | exact (k1) | exact (k2))); (conv => whnf); (try simp only [Nat.zero_add, Nat.mul_zero, Nat.mul_one, lw, Int.natCast_zero, Int.natCast_one, Int.reduceMul, Int.reduceAdd, Int.reduceToNat, Nat.reduceMul, Nat.reduceAdd, Int.mul_zero, Int.mul_one, Int.add_zero, Int.zero_add, Int.toNat_zero, Int.toNat_one, List.set_cons_zero, List.set_cons_succ, List.length_cons, List.length_nil])))
          exact ⟨(false, lw (ev p p2 false) (ev p q2 false) (ev q p2 false) (ev q q2 false) 2, lw (ev p p2 true) (ev p q2 true) (ev q p2 true) (ev q q2 true) 2), ⟨fun h => (by cases h), fun _ => (by simp [h1, h2])⟩, V.wk⟩
        · (conv => whnf)
          (try simp only [Nat.zero_add, Nat.mul_zero, Nat.mul_one, lw, Int.natCast_zero, Int.natCast_one, Int.reduceMul, Int.reduceAdd, Int.reduceToNat, Nat.reduceMul, Nat.reduceAdd, Int.mul_zero, Int.mul_one, Int.add_zero, Int.zero_add, Int.toNat_zero, Int.toNat_one, List.set_cons_zero, List.set_cons_succ, List.length_cons, List.length_nil])
          repeat (first | (refine V.s1 ?_; (try simp only [Nat.zero_add, Nat.mul_zero, Nat.mul_one, lw, Int.natCast_zero, Int.natCast_one, Int.reduceMul, Int.reduceAdd, Int.reduceToNat, Nat.reduceMul, Nat.reduceAdd, Int.mul_zero, Int.mul_one, Int.add_zero, Int.zero_add, Int.toNat_zero, Int.toNat_one, List.set_cons_zero, List.set_cons_succ, List.length_cons, List.length_nil])) | ((with_reducible refine recheck_and ?_ ?_); (focus ((conv => whnf); (try simp only [Nat.zero_add, Nat.mul_zero, Nat.mul_one, lw, Int.natCast_zero, Int.natCast_one, Int.reduceMul, Int.reduceAdd, Int.reduceToNat, Nat.reduceMul, Nat.reduceAdd, Int.mul_zero, Int.mul_one, Int.add_zero, Int.zero_add, Int.toNat_zero, Int.toNat_one, List.set_cons_zero, List.set_cons_succ, List.length_cons, List.length_nil]); (repeat (refine V.s1 ?_; (try simp only [Nat.zero_add, Nat.mul_zero, Nat.mul_one, lw, Int.natCast_zero, Int.natCast_one, Int.reduceMul, Int.reduceAdd, Int.reduceToNat, Nat.reduceMul, Nat.reduceAdd, Int.mul_zero, Int.mul_one, Int.add_zero, Int.zero_add, Int.toNat_zero, Int.toNat_one, List.set_cons_zero, List.set_cons_succ, List.length_cons, List.length_nil]))); exact ⟨rfl⟩)); (conv => whnf); (try simp only [Nat.zero_add, Nat.mul_zero, Nat.mul_one, lw, Int.natCast_zero, Int.natCast_one, Int.reduceMul, Int.reduceAdd, Int.reduceToNat, Nat.reduceMul, Nat.reduceAdd, Int.mul_zero, Int.mul_one, Int.add_zero, Int.zero_add, Int.toNat_zero, Int.toNat_one, List.set_cons_zero, List.set_cons_succ, List.length_cons, List.length_nil])) | ((try ((with_reducible refine .ext ?_); (conv => whnf); (try simp only [Nat.zero_add, Nat.mul_zero, Nat.mul_one, lw, Int.natCast_zero, Int.natCast_one, Int.reduceMul, Int.reduceAdd, Int.reduceToNat, Nat.reduceMul, Nat.reduceAdd, Int.mul_zero, Int.mul_one, Int.add_zero, Int.zero_add, Int.toNat_zero, Int.toNat_one, List.set_cons_zero, List.set_cons_succ, List.length_cons, List.length_nil]))); (with_reducible refine call_intro (r := ?_) ?_ ?_); rotate_left; (focus (first | exact (k1) | exact (k2))); (conv => whnf); (try simp only [Nat.zero_add, Nat.mul_zero, Nat.mul_one, lw, Int.natCast_zero, Int.natCast_one, Int.reduceMul, Int.reduceAdd, Int.reduceToNat, Nat.reduceMul, Nat.reduceAdd, Int.mul_zero, Int.mul_one, Int.add_zero, Int.zero_add, Int.toNat_zero, Int.toNat_one, List.set_cons_zero, List.set_cons_succ, List.length_cons, List.length_nil])))
          exact ⟨(false, lw (ev p p2 false) (ev p q2 false) (ev q p2 false) (ev q q2 false) 2, lw (ev p p2 true) (ev p q2 true) (ev q p2 true) (ev q q2 true) 2), ⟨fun h => (by cases h), fun _ => (by simp [h1, h2])⟩, V.wk⟩
        · (conv => whnf)
          (try simp only [Nat.zero_add, Nat.mul_zero, Nat.mul_one, lw, Int.natCast_zero, Int.natCast_one, Int.reduceMul, Int.reduceAdd, Int.reduceToNat, Nat.reduceMul, Nat.reduceAdd, Int.mul_zero, Int.mul_one, Int.add_zero, Int.zero_add, Int.toNat_zero, Int.toNat_one, List.set_cons_zero, List.set_cons_succ, List.length_cons, List.length_nil])
          repeat (first | (refine V.s1 ?_; (try simp only [Nat.zero_add, Nat.mul_zero, Nat.mul_one, lw, Int.natCast_zero, Int.natCast_one, Int.reduceMul, Int.reduceAdd, Int.reduceToNat, Nat.reduceMul, Nat.reduceAdd, Int.mul_zero, Int.mul_one, Int.add_zero, Int.zero_add, Int.toNat_zero, Int.toNat_one, List.set_cons_zero, List.set_cons_succ, List.length_cons, List.length_nil])) | ((with_reducible refine recheck_and ?_ ?_); (focus ((conv => whnf); (try simp only [Nat.zero_add, Nat.mul_zero, Nat.mul_one, lw, Int.natCast_zero, Int.natCast_one, Int.reduceMul, Int.reduceAdd, Int.reduceToNat, Nat.reduceMul, Nat.reduceAdd, Int.mul_zero, Int.mul_one, Int.add_zero, Int.zero_add, Int.toNat_zero, Int.toNat_one, List.set_cons_zero, List.set_cons_succ, List.length_cons, List.length_nil]); (repeat (refine V.s1 ?_; (try simp only [Nat.zero_add, Nat.mul_zero, Nat.mul_one, lw, Int.natCast_zero, Int.natCast_one, Int.reduceMul, Int.reduceAdd, Int.reduceToNat, Nat.reduceMul, Nat.reduceAdd, Int.mul_zero, Int.mul_one, Int.add_zero, Int.zero_add, Int.toNat_zero, Int.toNat_one, List.set_cons_zero, List.set_cons_succ, List.length_cons, List.length_nil]))); exact ⟨rfl⟩)); (conv => whnf); (try simp only [Nat.zero_add, Nat.mul_zero, Nat.mul_one, lw, Int.natCast_zero, Int.natCast_one, Int.reduceMul, Int.reduceAdd, Int.reduceToNat, Nat.reduceMul, Nat.reduceAdd, Int.mul_zero, Int.mul_one, Int.add_zero, Int.zero_add, Int.toNat_zero, Int.toNat_one, List.set_cons_zero, List.set_cons_succ, List.length_cons, List.length_nil])) | ((try ((with_reducible refine .ext ?_); (conv => whnf); (try simp only [Nat.zero_add, Nat.mul_zero, Nat.mul_one, lw, Int.natCast_zero, Int.natCast_one, Int.reduceMul, Int.reduceAdd, Int.reduceToNat, Nat.reduceMul, Nat.reduceAdd, Int.mul_zero, Int.mul_one, Int.add_zero, Int.zero_add, Int.toNat_zero, Int.toNat_one, List.set_cons_zero, List.set_cons_succ, List.length_cons, List.length_nil]))); (with_reducible refine call_intro (r := ?_) ?_ ?_); rotate_left; (focus (first | exact (k1) | exact (k2))); (conv => whnf); (try simp only [Nat.zero_add, Nat.mul_zero, Nat.mul_one, lw, Int.natCast_zero, Int.natCast_one, Int.reduceMul, Int.reduceAdd, Int.reduceToNat, Nat.reduceMul, Nat.reduceAdd, Int.mul_zero, Int.mul_one, Int.add_zero, Int.zero_add, Int.toNat_zero, Int.toNat_one, List.set_cons_zero, List.set_cons_succ, List.length_cons, List.length_nil])))
          exact ⟨1, ⟨by omega, fun _ => ⟨h1, h2⟩, fun _ => by omega⟩, by omega, V.wk⟩
      · subst e
        have k1 := hg q q2 false (by simp) (by simp)
        have k2 := hg q q2 true (by simp) (by simp)
        obtain ⟨b1, h1⟩ : ∃ b, okk q q2 false = b := ⟨_, rfl⟩
        obtain ⟨b2, h2⟩ : ∃ b, okk q q2 true = b := ⟨_, rfl⟩
        rw [h1] at k1
        rw [h2] at k2
        cases b1 <;> cases b2
        · (conv => whnf)
          (try simp only [Nat.zero_add, Nat.mul_zero, Nat.mul_one, lw, Int.natCast_zero, Int.natCast_one, Int.reduceMul, Int.reduceAdd, Int.reduceToNat, Nat.reduceMul, Nat.reduceAdd, Int.mul_zero, Int.mul_one, Int.add_zero, Int.zero_add, Int.toNat_zero, Int.toNat_one, List.set_cons_zero, List.set_cons_succ, List.length_cons, List.length_nil])
          repeat (first | (refine V.s1 ?_; (try simp only [Nat.zero_add, Nat.mul_zero, Nat.mul_one, lw, Int.natCast_zero, Int.natCast_one, Int.reduceMul, Int.reduceAdd, Int.reduceToNat, Nat.reduceMul, Nat.reduceAdd, Int.mul_zero, Int.mul_one, Int.add_zero, Int.zero_add, Int.toNat_zero, Int.toNat_one, List.set_cons_zero, List.set_cons_succ, List.length_cons, List.length_nil])) | ((with_reducible refine recheck_and ?_ ?_); (focus ((conv => whnf); (try simp only [Nat.zero_add, Nat.mul_zero, Nat.mul_one, lw, Int.natCast_zero, Int.natCast_one, Int.reduceMul, Int.reduceAdd, Int.reduceToNat, Nat.reduceMul, Nat.reduceAdd, Int.mul_zero, Int.mul_one, Int.add_zero, Int.zero_add, Int.toNat_zero, Int.toNat_one, List.set_cons_zero, List.set_cons_succ, List.length_cons, List.length_nil]); (repeat (refine V.s1 ?_; (try simp only [Nat.zero_add, Nat.mul_zero, Nat.mul_one, lw, Int.natCast_zero, Int.natCast_one, Int.reduceMul, Int.reduceAdd, Int.reduceToNat, Nat.reduceMul, Nat.reduceAdd, Int.mul_zero, Int.mul_one, Int.add_zero, Int.zero_add, Int.toNat_zero, Int.toNat_one, List.set_cons_zero, List.set_cons_succ, List.length_cons, List.length_nil]))); exact ⟨rfl⟩)); (conv => whnf); (try simp only [Nat.zero_add, Nat.mul_zero, Nat.mul_one, lw, Int.natCast_zero, Int.natCast_one, Int.reduceMul, Int.reduceAdd, Int.reduceToNat, Nat.reduceMul, Nat.reduceAdd, Int.mul_zero, Int.mul_one, Int.add_zero, Int.zero_add, Int.toNat_zero, Int.toNat_one, List.set_cons_zero, List.set_cons_succ, List.length_cons, List.length_nil])) | ((try ((with_reducible refine .ext ?_); (conv => whnf); (try simp only [Nat.zero_add, Nat.mul_zero, Nat.mul_one, lw, Int.natCast_zero, Int.natCast_one, Int.reduceMul, Int.reduceAdd, Int.reduceToNat, Nat.reduceMul, Nat.reduceAdd, Int.mul_zero, Int.mul_one, Int.add_zero, Int.zero_add, Int.toNat_zero, Int.toNat_one, List.set_cons_zero, List.set_cons_succ, List.length_cons, List.length_nil]))); (with_reducible refine call_intro (r := ?_) ?_ ?_); rotate_left; (focus (first | exact (k1) | exact (k2))); (conv => whnf); (try simp only [Nat.zero_add, Nat.mul_zero, Nat.mul_one, lw, Int.natCast_zero, Int.natCast_one, Int.reduceMul, Int.reduceAdd, Int.reduceToNat, Nat.reduceMul, Nat.reduceAdd, Int.mul_zero, Int.mul_one, Int.add_zero, Int.zero_add, Int.toNat_zero, Int.toNat_one, List.set_cons_zero, List.set_cons_succ, List.length_cons, List.length_nil])))
          exact ⟨(false, lw (ev p p2 false) (ev p q2 false) (ev q p2 false) (ev q q2 false) 3, lw (ev p p2 true) (ev p q2 true) (ev q p2 true) (ev q q2 true) 3), ⟨fun h => (by cases h), fun _ => (by simp [h1, h2])⟩, V.wk⟩
        · (conv => whnf)
          (try simp only [Nat.zero_add, Nat.mul_zero, Nat.mul_one, lw, Int.natCast_zero, Int.natCast_one, Int.reduceMul, Int.reduceAdd, Int.reduceToNat, Nat.reduceMul, Nat.reduceAdd, Int.mul_zero, Int.mul_one, Int.add_zero, Int.zero_add, Int.toNat_zero, Int.toNat_one, List.set_cons_zero, List.set_cons_succ, List.length_cons, List.length_nil])
          repeat (first | (refine V.s1 ?_; (try simp only [Nat.zero_add, Nat.mul_zero, Nat.mul_one, lw, Int.natCast_zero, Int.natCast_one, Int.reduceMul, Int.reduceAdd, Int.reduceToNat, Nat.reduceMul, Nat.reduceAdd, Int.mul_zero, Int.mul_one, Int.add_zero, Int.zero_add, Int.toNat_zero, Int.toNat_one, List.set_cons_zero, List.set_cons_succ, List.length_cons, List.length_nil])) | ((with_reducible refine recheck_and ?_ ?_); (focus ((conv => whnf); (try simp only [Nat.zero_add, Nat.mul_zero, Nat.mul_one, lw, Int.natCast_zero, Int.natCast_one, Int.reduceMul, Int.reduceAdd, Int.reduceToNat, Nat.reduceMul, Nat.reduceAdd, Int.mul_zero, Int.mul_one, Int.add_zero, Int.zero_add, Int.toNat_zero, Int.toNat_one, List.set_cons_zero, List.set_cons_succ, List.length_cons, List.length_nil]); (repeat (refine V.s1 ?_; (try simp only [Nat.zero_add, Nat.mul_zero, Nat.mul_one, lw, Int.natCast_zero, Int.natCast_one, Int.reduceMul, Int.reduceAdd, Int.reduceToNat, Nat.reduceMul, Nat.reduceAdd, Int.mul_zero, Int.mul_one, Int.add_zero, Int.zero_add, Int.toNat_zero, Int.toNat_one, List.set_cons_zero, List.set_cons_succ, List.length_cons, List.length_nil]))); exact ⟨rfl⟩)); (conv => whnf); (try simp only [Nat.zero_add, Nat.mul_zero, Nat.mul_one, lw, Int.natCast_zero, Int.natCast_one, Int.reduceMul, Int.reduceAdd, Int.reduceToNat, Nat.reduceMul, Nat.reduceAdd, Int.mul_zero, Int.mul_one, Int.add_zero, Int.zero_add, Int.toNat_zero, Int.toNat_one, List.set_cons_zero, List.set_cons_succ, List.length_cons, List.length_nil])) | ((try ((with_reducible refine .ext ?_); (conv => whnf); (try simp only [Nat.zero_add, Nat.mul_zero, Nat.mul_one, lw, Int.natCast_zero, Int.natCast_one, Int.reduceMul, Int.reduceAdd, Int.reduceToNat, Nat.reduceMul, Nat.reduceAdd, Int.mul_zero, Int.mul_one, Int.add_zero, Int.zero_add, Int.toNat_zero, Int.toNat_one, List.set_cons_zero, List.set_cons_succ, List.length_cons, List.length_nil]))); (with_reducible refine call_intro (r := ?_) ?_ ?_); rotate_left; (focus (first | exact (k1) | exact (k2))); (conv => whnf); (try simp only [Nat.zero_add, Nat.mul_zero, Nat.mul_one, lw, Int.natCast_zero, Int.natCast_one, Int.reduceMul, Int.reduceAdd, Int.reduceToNat, Nat.reduceMul, Nat.reduceAdd, Int.mul_zero, Int.mul_one, Int.add_zero, Int.zero_add, Int.toNat_zero, Int.toNat_one, List.set_cons_zero, List.set_cons_succ, List.length_cons, List.length_nil])))
          exact ⟨(false, lw (ev p p2 false) (ev p q2 false) (ev q p2 false) (ev q q2 false) 3, lw (ev p p2 true) (ev p q2 true) (ev q p2 true) (ev q q2 true) 3), ⟨fun h => (by cases h), fun _ => (by simp [h1, h2])⟩, V.wk⟩
        · (conv => whnf)
          (try simp only [Nat.zero_add, Nat.mul_zero, Nat.mul_one, lw, Int.natCast_zero, Int.natCast_one, Int.reduceMul, Int.reduceAdd, Int.reduceToNat, Nat.reduceMul, Nat.reduceAdd, Int.mul_zero, Int.mul_one, Int.add_zero, Int.zero_add, Int.toNat_zero, Int.toNat_one, List.set_cons_zero, List.set_cons_succ, List.length_cons, List.length_nil])
          repeat (first | (refine V.s1 ?_; (try simp only [Nat.zero_add, Nat.mul_zero, Nat.mul_one, lw, Int.natCast_zero, Int.natCast_one, Int.reduceMul, Int.reduceAdd, Int.reduceToNat, Nat.reduceMul, Nat.reduceAdd, Int.mul_zero, Int.mul_one, Int.add_zero, Int.zero_add, Int.toNat_zero, Int.toNat_one, List.set_cons_zero, List.set_cons_succ, List.length_cons, List.length_nil])) | ((with_reducible refine recheck_and ?_ ?_); (focus ((conv => whnf); (try simp only [Nat.zero_add, Nat.mul_zero, Nat.mul_one, lw, Int.natCast_zero, Int.natCast_one, Int.reduceMul, Int.reduceAdd, Int.reduceToNat, Nat.reduceMul, Nat.reduceAdd, Int.mul_zero, Int.mul_one, Int.add_zero, Int.zero_add, Int.toNat_zero, Int.toNat_one, List.set_cons_zero, List.set_cons_succ, List.length_cons, List.length_nil]); (repeat (refine V.s1 ?_; (try simp only [Nat.zero_add, Nat.mul_zero, Nat.mul_one, lw, Int.natCast_zero, Int.natCast_one, Int.reduceMul, Int.reduceAdd, Int.reduceToNat, Nat.reduceMul, Nat.reduceAdd, Int.mul_zero, Int.mul_one, Int.add_zero, Int.zero_add, Int.toNat_zero, Int.toNat_one, List.set_cons_zero, List.set_cons_succ, List.length_cons, List.length_nil]))); exact ⟨rfl⟩)); (conv => whnf); (try simp only [Nat.zero_add, Nat.mul_zero, Nat.mul_one, lw, Int.natCast_zero, Int.natCast_one, Int.reduceMul, Int.reduceAdd, Int.reduceToNat, Nat.reduceMul, Nat.reduceAdd, Int.mul_zero, Int.mul_one, Int.add_zero, Int.zero_add, Int.toNat_zero, Int.toNat_one, List.set_cons_zero, List.set_cons_succ, List.length_cons, List.length_nil])) | ((try ((with_reducible refine .ext ?_); (conv => whnf); (try simp only [Nat.zero_add, Nat.mul_zero, Nat.mul_one, lw, Int.natCast_zero, Int.natCast_one, Int.reduceMul, Int.reduceAdd, Int.reduceToNat, Nat.reduceMul, Nat.reduceAdd, Int.mul_zero, Int.mul_one, Int.add_zero, Int.zero_add, Int.toNat_zero, Int.toNat_one, List.set_cons_zero, List.set_cons_succ, List.length_cons, List.length_nil]))); (with_reducible refine call_intro (r := ?_) ?_ ?_); rotate_left; (focus (first | exact (k1) | exact (k2))); (conv => whnf); (try simp only [Nat.zero_add, Nat.mul_zero, Nat.mul_one, lw, Int.natCast_zero, Int.natCast_one, Int.reduceMul, Int.reduceAdd, Int.reduceToNat, Nat.reduceMul, Nat.reduceAdd, Int.mul_zero, Int.mul_one, Int.add_zero, Int.zero_add, Int.toNat_zero, Int.toNat_one, List.set_cons_zero, List.set_cons_succ, List.length_cons, List.length_nil])))
          exact ⟨(false, lw (ev p p2 false) (ev p q2 false) (ev q p2 false) (ev q q2 false) 3, lw (ev p p2 true) (ev p q2 true) (ev q p2 true) (ev q q2 true) 3), ⟨fun h => (by cases h), fun _ => (by simp [h1, h2])⟩, V.wk⟩
        · (conv => whnf)
          (try simp only [Nat.zero_add, Nat.mul_zero, Nat.mul_one, lw, Int.natCast_zero, Int.natCast_one, Int.reduceMul, Int.reduceAdd, Int.reduceToNat, Nat.reduceMul, Nat.reduceAdd, Int.mul_zero, Int.mul_one, Int.add_zero, Int.zero_add, Int.toNat_zero, Int.toNat_one, List.set_cons_zero, List.set_cons_succ, List.length_cons, List.length_nil])
          repeat (first | (refine V.s1 ?_; (try simp only [Nat.zero_add, Nat.mul_zero, Nat.mul_one, lw, Int.natCast_zero, Int.natCast_one, Int.reduceMul, Int.reduceAdd, Int.reduceToNat, Nat.reduceMul, Nat.reduceAdd, Int.mul_zero, Int.mul_one, Int.add_zero, Int.zero_add, Int.toNat_zero, Int.toNat_one, List.set_cons_zero, List.set_cons_succ, List.length_cons, List.length_nil])) | ((with_reducible refine recheck_and ?_ ?_); (focus ((conv => whnf); (try simp only [Nat.zero_add, Nat.mul_zero, Nat.mul_one, lw, Int.natCast_zero, Int.natCast_one, Int.reduceMul, Int.reduceAdd, Int.reduceToNat, Nat.reduceMul, Nat.reduceAdd, Int.mul_zero, Int.mul_one, Int.add_zero, Int.zero_add, Int.toNat_zero, Int.toNat_one, List.set_cons_zero, List.set_cons_succ, List.length_cons, List.length_nil]); (repeat (refine V.s1 ?_; (try simp only [Nat.zero_add, Nat.mul_zero, Nat.mul_one, lw, Int.natCast_zero, Int.natCast_one, Int.reduceMul, Int.reduceAdd, Int.reduceToNat, Nat.reduceMul, Nat.reduceAdd, Int.mul_zero, Int.mul_one, Int.add_zero, Int.zero_add, Int.toNat_zero, Int.toNat_one, List.set_cons_zero, List.set_cons_succ, List.length_cons, List.length_nil]))); exact ⟨rfl⟩)); (conv => whnf); (try simp only [Nat.zero_add, Nat.mul_zero, Nat.mul_one, lw, Int.natCast_zero, Int.natCast_one, Int.reduceMul, Int.reduceAdd, Int.reduceToNat, Nat.reduceMul, Nat.reduceAdd, Int.mul_zero, Int.mul_one, Int.add_zero, Int.zero_add, Int.toNat_zero, Int.toNat_one, List.set_cons_zero, List.set_cons_succ, List.length_cons, List.length_nil])) | ((try ((with_reducible refine .ext ?_); (conv => whnf); (try simp only [Nat.zero_add, Nat.mul_zero, Nat.mul_one, lw, Int.natCast_zero, Int.natCast_one, Int.reduceMul, Int.reduceAdd, Int.reduceToNat, Nat.reduceMul, Nat.reduceAdd, Int.mul_zero, Int.mul_one, Int.add_zero, Int.zero_add, Int.toNat_zero, Int.toNat_one, List.set_cons_zero, List.set_cons_succ, List.length_cons, List.length_nil]))); (with_reducible refine call_intro (r := ?_) ?_ ?_); rotate_left; (focus (first | exact (k1) | exact (k2))); (conv => whnf); (try simp only [Nat.zero_add, Nat.mul_zero, Nat.mul_one, lw, Int.natCast_zero, Int.natCast_one, Int.reduceMul, Int.reduceAdd, Int.reduceToNat, Nat.reduceMul, Nat.reduceAdd, Int.mul_zero, Int.mul_one, Int.add_zero, Int.zero_add, Int.toNat_zero, Int.toNat_one, List.set_cons_zero, List.set_cons_succ, List.length_cons, List.length_nil])))
          exact ⟨2, ⟨by omega, fun _ => hj.2.1 (by omega), fun _ => ⟨h1, h2⟩⟩, by omega, V.wk⟩
      · subst e
        have o1 := hj.2.1 (by omega)
        have o2 := hj.2.2 (by omega)
        (conv => whnf)
        refine V.st ?_
        exact ⟨2, ⟨by omega, fun _ => hi.2.1 (by omega), fun _ => ⟨o1.1, o1.2, o2.1, o2.2⟩⟩, by omega, V.wk⟩
    · subst e
      have o1 := hi.2.1 (by omega)
      have o2 := hi.2.2 (by omega)
      (conv => whnf)
      refine V.st ?_
      exact ⟨(true, lw (ev p p2 false) (ev p q2 false) (ev q p2 false) (ev q q2 false) 4, lw (ev p p2 true) (ev p q2 true) (ev q p2 true) (ev q q2 true) 4), ⟨fun _ => ⟨by simp [o1.1, o1.2.1, o1.2.2.1, o1.2.2.2, o2.1, o2.2.1, o2.2.2.1, o2.2.2.2], rfl, rfl⟩, fun h => (by cases h)⟩, V.wk⟩
  · rintro ⟨b, ls, hs⟩ hy
    cases b
    · rw [if_neg (by rw [hy.2 rfl]; simp)]
      clear hy
      dsimp only
      (conv => whnf)
      refine V.st ?_
      exact Fin.of rfl
    · obtain ⟨a1, a2, a3⟩ := hy.1 rfl
      dsimp only at a2 a3
      rw [if_pos a1]
      subst a2 a3
      clear hy
      dsimp only
      have kl := least_c (ev p p2 false) [ev p q2 false, ev q p2 false, ev q q2 false] (by simp)
      have kg := greatest_c (ev p p2 true) [ev p q2 true, ev q p2 true, ev q q2 true] (by simp)
      rw [show [ev p q2 false, ev q p2 false, ev q q2 false].foldl min (ev p p2 false) = min (min (min (ev p p2 false) (ev p q2 false)) (ev q p2 false)) (ev q q2 false) from rfl] at kl
      rw [show [ev p q2 true, ev q p2 true, ev q q2 true].foldl max (ev p p2 true) = max (max (max (ev p p2 true) (ev p q2 true)) (ev q p2 true)) (ev q q2 true) from rfl] at kg
      have km := made_b (min (min (min (ev p p2 false) (ev p q2 false)) (ev q p2 false)) (ev q q2 false)) (max (max (max (ev p p2 true) (ev p q2 true)) (ev q p2 true)) (ev q q2 true))
      generalize min (min (min (ev p p2 false) (ev p q2 false)) (ev q p2 false)) (ev q q2 false) = lo at *
      generalize max (max (max (ev p p2 true) (ev p q2 true)) (ev q p2 true)) (ev q q2 true) = hi at *
      generalize mk lo hi = r at *
      (conv => whnf)
      refine V.st ?_
      refine ⟨(.take 0 (.take 2 (.ev (.cons 1 [2] (.ev (.cons 3 [] (.ev (.cons 4 [] (.take 5 (.take 6 (.ev (.cons 7 [] (.take 8 (.done)) (.nil))))) (.nil))) (.nil))) (.nil))))), ⟨by kernel_rfl, by kernel_rfl, by kernel_rfl⟩, .go ?_⟩
      (conv => whnf)
      refine V.st ?_
      repeat ((try ((with_reducible refine .ext ?_); (conv => whnf))); (with_reducible refine call_intro (r := ?_) ?_ ?_); rotate_left; (focus (first | exact (kl) | exact (kg) | exact (km))); (conv => whnf); refine V.st ?_)
      exact Fin.of rfl
theorem spread_1 (p q p2 q2 : Int) (g : Nat) (d : Int) (ev : Int → Int → Bool → Int) (okk : Int → Int → Bool → Bool)
    (hg : ∀ x y u, (x = p ∨ x = q) → (y = p2 ∨ y = q2) → Called Tryz.prog g ([.int .i64 x, .int .i64 y, .bool u] ++ [.ref [.int .i64 d]]) (.tup [.int .i64 (ev x y u), .bool (okk x y u)])) :
    Called Tryz.prog 78 [bA p q, bA p2 q2, .fn g [] [.ref [.int .i64 d]]] (bD (if (okk p p2 false && okk p p2 true && okk p q2 false && okk p q2 true && okk q p2 false && okk q p2 true && okk q q2 false && okk q q2 true) = true then mk (min (min (min (ev p p2 false) (ev p q2 false)) (ev q p2 false)) (ev q q2 false)) (max (max (max (ev p p2 true) (ev p q2 true)) (ev q p2 true)) (ev q q2 true)) else (0, 0, 6))) := by
  refine called_of_run tbOk 6 ⟨Tryz.func78, rfl, rfl, Nat.le_of_ble_eq_true rfl⟩ ?_
  (conv => whnf)
  refine V.st ?_
  refine lp_exit (β := Bool × List Int × List Int) 0 (fun y => (y.1 = true → (okk p p2 false && okk p p2 true && okk p q2 false && okk p q2 true && okk q p2 false && okk q p2 true && okk q q2 false && okk q q2 true) = true ∧ y.2.1 = lw (ev p p2 false) (ev p q2 false) (ev q p2 false) (ev q q2 false) 4 ∧ y.2.2 = lw (ev p p2 true) (ev p q2 true) (ev q p2 true) (ev q q2 true) 4) ∧ (y.1 = false → (okk p p2 false && okk p p2 true && okk p q2 false && okk p q2 true && okk q p2 false && okk q p2 true && okk q q2 false && okk q q2 true) = false))
    (fun y => [(10, .bool y.1), (24, .any)]) (fun y => [(8, .arr .i64 y.2.1), (9, .arr .i64 y.2.2)]) ?_ ?_
  · refine lp_any (0 : Nat) (fun i => i ≤ 2 ∧ (1 ≤ i → okk p p2 false = true ∧ okk p p2 true = true ∧ okk p q2 false = true ∧ okk p q2 true = true) ∧ (2 ≤ i → okk q p2 false = true ∧ okk q p2 true = true ∧ okk q q2 false = true ∧ okk q q2 true = true)) (fun i => 2 - i)
      (fun i => [(24, .int .i64 i)]) (fun i => [(8, .arr .i64 (lw (ev p p2 false) (ev p q2 false) (ev q p2 false) (ev q q2 false) (2 * i))), (9, .arr .i64 (lw (ev p p2 true) (ev p q2 true) (ev q p2 true) (ev q q2 true) (2 * i)))]) ?_ ?_ ?_
    · exact V.wk
    · exact ⟨by omega, fun h => by omega, fun h => by omega⟩
    intro i hi
    rcases (by omega : i = 0 ∨ i = 1 ∨ i = 2) with e | e | e
    · subst e
      (conv => whnf)
      refine V.st ?_
      refine lp_any (0 : Nat) (fun j => j ≤ 2 ∧ (1 ≤ j → okk p p2 false = true ∧ okk p p2 true = true) ∧ (2 ≤ j → okk p q2 false = true ∧ okk p q2 true = true)) (fun j => 2 - j)
        (fun j => [(33, .int .i64 j)]) (fun j => [(8, .arr .i64 (lw (ev p p2 false) (ev p q2 false) (ev q p2 false) (ev q q2 false) (0 + j))), (9, .arr .i64 (lw (ev p p2 true) (ev p q2 true) (ev q p2 true) (ev q q2 true) (0 + j)))]) ?_ ?_ ?_
      · exact V.wk
      · exact ⟨by omega, fun h => by omega, fun h => by omega⟩
      intro j hj
      rcases (by omega : j = 0 ∨ j = 1 ∨ j = 2) with e | e | e
      · subst e
        have k1 := hg p p2 false (by simp) (by simp)
        have k2 := hg p p2 true (by simp) (by simp)
        obtain ⟨b1, h1⟩ : ∃ b, okk p p2 false = b := ⟨_, rfl⟩
        obtain ⟨b2, h2⟩ : ∃ b, okk p p2 true = b := ⟨_, rfl⟩
        rw [h1] at k1
        rw [h2] at k2
        cases b1 <;> cases b2
        · (conv => whnf)
          (try simp only [Nat.zero_add, Nat.mul_zero, Nat.mul_one, lw, Int.natCast_zero, Int.natCast_one, Int.reduceMul, Int.reduceAdd, Int.reduceToNat, Nat.reduceMul, Nat.reduceAdd, Int.mul_zero, Int.mul_one, Int.add_zero, Int.zero_add, Int.toNat_zero, Int.toNat_one, List.set_cons_zero, List.set_cons_succ, List.length_cons, List.length_nil])
          repeat (first | (refine V.s1 ?_; (try simp only [Nat.zero_add, Nat.mul_zero, Nat.mul_one, lw, Int.natCast_zero, Int.natCast_one, Int.reduceMul, Int.reduceAdd, Int.reduceToNat, Nat.reduceMul, Nat.reduceAdd, Int.mul_zero, Int.mul_one, Int.add_zero, Int.zero_add, Int.toNat_zero, Int.toNat_one, List.set_cons_zero, List.set_cons_succ, List.length_cons, List.length_nil])) | ((with_reducible refine recheck_and ?_ ?_); (focus ((conv => whnf); (try simp only [Nat.zero_add, Nat.mul_zero, Nat.mul_one, lw, Int.natCast_zero, Int.natCast_one, Int.reduceMul, Int.reduceAdd, Int.reduceToNat, Nat.reduceMul, Nat.reduceAdd, Int.mul_zero, Int.mul_one, Int.add_zero, Int.zero_add, Int.toNat_zero, Int.toNat_one, List.set_cons_zero, List.set_cons_succ, List.length_cons, List.length_nil]); (repeat (refine V.s1 ?_; (try simp only [Nat.zero_add, Nat.mul_zero, Nat.mul_one, lw, Int.natCast_zero, Int.natCast_one, Int.reduceMul, Int.reduceAdd, Int.reduceToNat, Nat.reduceMul, Nat.reduceAdd, Int.mul_zero, Int.mul_one, Int.add_zero, Int.zero_add, Int.toNat_zero, Int.toNat_one, List.set_cons_zero, List.set_cons_succ, List.length_cons, List.length_nil]))); exact ⟨rfl⟩)); (conv => whnf); (try simp only [Nat.zero_add, Nat.mul_zero, Nat.mul_one, lw, Int.natCast_zero, Int.natCast_one, Int.reduceMul, Int.reduceAdd, Int.reduceToNat, Nat.reduceMul, Nat.reduceAdd, Int.mul_zero, Int.mul_one, Int.add_zero, Int.zero_add, Int.toNat_zero, Int.toNat_one, List.set_cons_zero, List.set_cons_succ, List.length_cons, List.length_nil])) | ((try ((with_reducible refine .ext ?_); (conv => whnf); (try simp only [Nat.zero_add, Nat.mul_zero, Nat.mul_one, lw, Int.natCast_zero, Int.natCast_one, Int.reduceMul, Int.reduceAdd, Int.reduceToNat, Nat.reduceMul, Nat.reduceAdd, Int.mul_zero, Int.mul_one, Int.add_zero, Int.zero_add, Int.toNat_zero, Int.toNat_one, List.set_cons_zero, List.set_cons_succ, List.length_cons, List.length_nil]))); (with_reducible refine call_intro (r := ?_) ?_ ?_); rotate_left; (focus (first | exact (k1) | exact (k2))); (conv => whnf); (try simp only [Nat.zero_add, Nat.mul_zero, Nat.mul_one, lw, Int.natCast_zero, Int.natCast_one, Int.reduceMul, Int.reduceAdd, Int.reduceToNat, Nat.reduceMul, Nat.reduceAdd, Int.mul_zero, Int.mul_one, Int.add_zero, Int.zero_add, Int.toNat_zero, Int.toNat_one, List.set_cons_zero, List.set_cons_succ, List.length_cons, List.length_nil])))
          exact ⟨(false, lw (ev p p2 false) (ev p q2 false) (ev q p2 false) (ev q q2 false) 0, lw (ev p p2 true) (ev p q2 true) (ev q p2 true) (ev q q2 true) 0), ⟨fun h => (by cases h), fun _ => (by simp [h1, h2])⟩, V.wk⟩
        · (conv => whnf)
          (try simp only [Nat.zero_add, Nat.mul_zero, Nat.mul_one, lw, Int.natCast_zero, Int.natCast_one, Int.reduceMul, Int.reduceAdd, Int.reduceToNat, Nat.reduceMul, Nat.reduceAdd, Int.mul_zero, Int.mul_one, Int.add_zero, Int.zero_add, Int.toNat_zero, Int.toNat_one, List.set_cons_zero, List.set_cons_succ, List.length_cons, List.length_nil])
          repeat (first | (refine V.s1 ?_; (try simp only [Nat.zero_add, Nat.mul_zero, Nat.mul_one, lw, Int.natCast_zero, Int.natCast_one, Int.reduceMul, Int.reduceAdd, Int.reduceToNat, Nat.reduceMul, Nat.reduceAdd, Int.mul_zero, Int.mul_one, Int.add_zero, Int.zero_add, Int.toNat_zero, Int.toNat_one, List.set_cons_zero, List.set_cons_succ, List.length_cons, List.length_nil])) | ((with_reducible refine recheck_and ?_ ?_); (focus ((conv => whnf); (try simp only [Nat.zero_add, Nat.mul_zero, Nat.mul_one, lw, Int.natCast_zero, Int.natCast_one, Int.reduceMul, Int.reduceAdd, Int.reduceToNat, Nat.reduceMul, Nat.reduceAdd, Int.mul_zero, Int.mul_one, Int.add_zero, Int.zero_add, Int.toNat_zero, Int.toNat_one, List.set_cons_zero, List.set_cons_succ, List.length_cons, List.length_nil]); (repeat (refine V.s1 ?_; (try simp only [Nat.zero_add, Nat.mul_zero, Nat.mul_one, lw, Int.natCast_zero, Int.natCast_one, Int.reduceMul, Int.reduceAdd, Int.reduceToNat, Nat.reduceMul, Nat.reduceAdd, Int.mul_zero, Int.mul_one, Int.add_zero, Int.zero_add, Int.toNat_zero, Int.toNat_one, List.set_cons_zero, List.set_cons_succ, List.length_cons, List.length_nil]))); exact ⟨rfl⟩)); (conv => whnf); (try simp only [Nat.zero_add, Nat.mul_zero, Nat.mul_one, lw, Int.natCast_zero, Int.natCast_one, Int.reduceMul, Int.reduceAdd, Int.reduceToNat, Nat.reduceMul, Nat.reduceAdd, Int.mul_zero, Int.mul_one, Int.add_zero, Int.zero_add, Int.toNat_zero, Int.toNat_one, List.set_cons_zero, List.set_cons_succ, List.length_cons, List.length_nil])) | ((try ((with_reducible refine .ext ?_); (conv => whnf); (try simp only [Nat.zero_add, Nat.mul_zero, Nat.mul_one, lw, Int.natCast_zero, Int.natCast_one, Int.reduceMul, Int.reduceAdd, Int.reduceToNat, Nat.reduceMul, Nat.reduceAdd, Int.mul_zero, Int.mul_one, Int.add_zero, Int.zero_add, Int.toNat_zero, Int.toNat_one, List.set_cons_zero, List.set_cons_succ, List.length_cons, List.length_nil]))); (with_reducible refine call_intro (r := ?_) ?_ ?_); rotate_left; (focus (first | exact (k1) | exact (k2))); (conv => whnf); (try simp only [Nat.zero_add, Nat.mul_zero, Nat.mul_one, lw, Int.natCast_zero, Int.natCast_one, Int.reduceMul, Int.reduceAdd, Int.reduceToNat, Nat.reduceMul, Nat.reduceAdd, Int.mul_zero, Int.mul_one, Int.add_zero, Int.zero_add, Int.toNat_zero, Int.toNat_one, List.set_cons_zero, List.set_cons_succ, List.length_cons, List.length_nil])))
          exact ⟨(false, lw (ev p p2 false) (ev p q2 false) (ev q p2 false) (ev q q2 false) 0, lw (ev p p2 true) (ev p q2 true) (ev q p2 true) (ev q q2 true) 0), ⟨fun h => (by cases h), fun _ => (by simp [h1, h2])⟩, V.wk⟩
        · (conv => whnf)
          (try simp only [Nat.zero_add, Nat.mul_zero, Nat.mul_one, lw, Int.natCast_zero, Int.natCast_one, Int.reduceMul, Int.reduceAdd, Int.reduceToNat, Nat.reduceMul, Nat.reduceAdd, Int.mul_zero, Int.mul_one, Int.add_zero, Int.zero_add, Int.toNat_zero, Int.toNat_one, List.set_cons_zero, List.set_cons_succ, List.length_cons, List.length_nil])
          repeat (first | (refine V.s1 ?_; (try simp only [Nat.zero_add, Nat.mul_zero, Nat.mul_one, lw, Int.natCast_zero, Int.natCast_one, Int.reduceMul, Int.reduceAdd, Int.reduceToNat, Nat.reduceMul, Nat.reduceAdd, Int.mul_zero, Int.mul_one, Int.add_zero, Int.zero_add, Int.toNat_zero, Int.toNat_one, List.set_cons_zero, List.set_cons_succ, List.length_cons, List.length_nil])) | ((with_reducible refine recheck_and ?_ ?_); (focus ((conv => whnf); (try simp only [Nat.zero_add, Nat.mul_zero, Nat.mul_one, lw, Int.natCast_zero, Int.natCast_one, Int.reduceMul, Int.reduceAdd, Int.reduceToNat, Nat.reduceMul, Nat.reduceAdd, Int.mul_zero, Int.mul_one, Int.add_zero, Int.zero_add, Int.toNat_zero, Int.toNat_one, List.set_cons_zero, List.set_cons_succ, List.length_cons, List.length_nil]); (repeat (refine V.s1 ?_; (try simp only [Nat.zero_add, Nat.mul_zero, Nat.mul_one, lw, Int.natCast_zero, Int.natCast_one, Int.reduceMul, Int.reduceAdd, Int.reduceToNat, Nat.reduceMul, Nat.reduceAdd, Int.mul_zero, Int.mul_one, Int.add_zero, Int.zero_add, Int.toNat_zero, Int.toNat_one, List.set_cons_zero, List.set_cons_succ, List.length_cons, List.length_nil]))); exact ⟨rfl⟩)); (conv => whnf); (try simp only [Nat.zero_add, Nat.mul_zero, Nat.mul_one, lw, Int.natCast_zero, Int.natCast_one, Int.reduceMul, Int.reduceAdd, Int.reduceToNat, Nat.reduceMul, Nat.reduceAdd, Int.mul_zero, Int.mul_one, Int.add_zero, Int.zero_add, Int.toNat_zero, Int.toNat_one, List.set_cons_zero, List.set_cons_succ, List.length_cons, List.length_nil])) | ((try ((with_reducible refine .ext ?_); (conv => whnf); (try simp only [Nat.zero_add, Nat.mul_zero, Nat.mul_one, lw, Int.natCast_zero, Int.natCast_one, Int.reduceMul, Int.reduceAdd, Int.reduceToNat, Nat.reduceMul, Nat.reduceAdd, Int.mul_zero, Int.mul_one, Int.add_zero, Int.zero_add, Int.toNat_zero, Int.toNat_one, List.set_cons_zero, List.set_cons_succ, List.length_cons, List.length_nil]))); (with_reducible refine call_intro (r := ?_) ?_ ?_); rotate_left; (focus (first | exact (k1) | exact (k2))); (conv => whnf); (try simp only [Nat.zero_add, Nat.mul_zero, Nat.mul_one, lw, Int.natCast_zero, Int.natCast_one, Int.reduceMul, Int.reduceAdd, Int.reduceToNat, Nat.reduceMul, Nat.reduceAdd, Int.mul_zero, Int.mul_one, Int.add_zero, Int.zero_add, Int.toNat_zero, Int.toNat_one, List.set_cons_zero, List.set_cons_succ, List.length_cons, List.length_nil])))
          exact ⟨(false, lw (ev p p2 false) (ev p q2 false) (ev q p2 false) (ev q q2 false) 0, lw (ev p p2 true) (ev p q2 true) (ev q p2 true) (ev q q2 true) 0), ⟨fun h => (by cases h), fun _ => (by simp [h1, h2])⟩, V.wk⟩
        · (conv => whnf)
          (try simp only [Nat.zero_add, Nat.mul_zero, Nat.mul_one, lw, Int.natCast_zero, Int.natCast_one, Int.reduceMul, Int.reduceAdd, Int.reduceToNat, Nat.reduceMul, Nat.reduceAdd, Int.mul_zero, Int.mul_one, Int.add_zero, Int.zero_add, Int.toNat_zero, Int.toNat_one, List.set_cons_zero, List.set_cons_succ, List.length_cons, List.length_nil])
          repeat (first | (refine V.s1 ?_; (try simp only [Nat.zero_add, Nat.mul_zero, Nat.mul_one, lw, Int.natCast_zero, Int.natCast_one, Int.reduceMul, Int.reduceAdd, Int.reduceToNat, Nat.reduceMul, Nat.reduceAdd, Int.mul_zero, Int.mul_one, Int.add_zero, Int.zero_add, Int.toNat_zero, Int.toNat_one, List.set_cons_zero, List.set_cons_succ, List.length_cons, List.length_nil])) | ((with_reducible refine recheck_and ?_ ?_); (focus ((conv => whnf); (try simp only [Nat.zero_add, Nat.mul_zero, Nat.mul_one, lw, Int.natCast_zero, Int.natCast_one, Int.reduceMul, Int.reduceAdd, Int.reduceToNat, Nat.reduceMul, Nat.reduceAdd, Int.mul_zero, Int.mul_one, Int.add_zero, Int.zero_add, Int.toNat_zero, Int.toNat_one, List.set_cons_zero, List.set_cons_succ, List.length_cons, List.length_nil]); (repeat (refine V.s1 ?_; (try simp only [Nat.zero_add, Nat.mul_zero, Nat.mul_one, lw, Int.natCast_zero, Int.natCast_one, Int.reduceMul, Int.reduceAdd, Int.reduceToNat, Nat.reduceMul, Nat.reduceAdd, Int.mul_zero, Int.mul_one, Int.add_zero, Int.zero_add, Int.toNat_zero, Int.toNat_one, List.set_cons_zero, List.set_cons_succ, List.length_cons, List.length_nil]))); exact ⟨rfl⟩)); (conv => whnf); (try simp only [Nat.zero_add, Nat.mul_zero, Nat.mul_one, lw, Int.natCast_zero, Int.natCast_one, Int.reduceMul, Int.reduceAdd, Int.reduceToNat, Nat.reduceMul, Nat.reduceAdd, Int.mul_zero, Int.mul_one, Int.add_zero, Int.zero_add, Int.toNat_zero, Int.toNat_one, List.set_cons_zero, List.set_cons_succ, List.length_cons, List.length_nil])) | ((try ((with_reducible refine .ext ?_); (conv => whnf); (try simp only [Nat.zero_add, Nat.mul_zero, Nat.mul_one, lw, Int.natCast_zero, Int.natCast_one, Int.reduceMul, Int.reduceAdd, Int.reduceToNat, Nat.reduceMul, Nat.reduceAdd, Int.mul_zero, Int.mul_one, Int.add_zero, Int.zero_add, Int.toNat_zero, Int.toNat_one, List.set_cons_zero, List.set_cons_succ, List.length_cons, List.length_nil]))); (with_reducible refine call_intro (r := ?_) ?_ ?_); rotate_left; (focus (first | exact (k1) | exact (k2))); (conv => whnf); (try simp only [Nat.zero_add, Nat.mul_zero, Nat.mul_one, lw, Int.natCast_zero, Int.natCast_one, Int.reduceMul, Int.reduceAdd, Int.reduceToNat, Nat.reduceMul, Nat.reduceAdd, Int.mul_zero, Int.mul_one, Int.add_zero, Int.zero_add, Int.toNat_zero, Int.toNat_one, List.set_cons_zero, List.set_cons_succ, List.length_cons, List.length_nil])))
          exact ⟨1, ⟨by omega, fun _ => ⟨h1, h2⟩, fun _ => by omega⟩, by omega, V.wk⟩
      · subst e
        have k1 := hg p q2 false (by simp) (by simp)
        have k2 := hg p q2 true (by simp) (by simp)
        obtain ⟨b1, h1⟩ : ∃ b, okk p q2 false = b := ⟨_, rfl⟩
        obtain ⟨b2, h2⟩ : ∃ b, okk p q2 true = b := ⟨_, rfl⟩
        rw [h1] at k1
        rw [h2] at k2
        cases b1 <;> cases b2
        · (conv => whnf)
          (try simp only [Nat.zero_add, Nat.mul_zero, Nat.mul_one, lw, Int.natCast_zero, Int.natCast_one, Int.reduceMul, Int.reduceAdd, Int.reduceToNat, Nat.reduceMul, Nat.reduceAdd, Int.mul_zero, Int.mul_one, Int.add_zero, Int.zero_add, Int.toNat_zero, Int.toNat_one, List.set_cons_zero, List.set_cons_succ, List.length_cons, List.length_nil])
          repeat (first | (refine V.s1 ?_; (try simp only [Nat.zero_add, Nat.mul_zero, Nat.mul_one, lw, Int.natCast_zero, Int.natCast_one, Int.reduceMul, Int.reduceAdd, Int.reduceToNat, Nat.reduceMul, Nat.reduceAdd, Int.mul_zero, Int.mul_one, Int.add_zero, Int.zero_add, Int.toNat_zero, Int.toNat_one, List.set_cons_zero, List.set_cons_succ, List.length_cons, List.length_nil])) | ((with_reducible refine recheck_and ?_ ?_); (focus ((conv => whnf); (try simp only [Nat.zero_add, Nat.mul_zero, Nat.mul_one, lw, Int.natCast_zero, Int.natCast_one, Int.reduceMul, Int.reduceAdd, Int.reduceToNat, Nat.reduceMul, Nat.reduceAdd, Int.mul_zero, Int.mul_one, Int.add_zero, Int.zero_add, Int.toNat_zero, Int.toNat_one, List.set_cons_zero, List.set_cons_succ, List.length_cons, List.length_nil]); (repeat (refine V.s1 ?_; (try simp only [Nat.zero_add, Nat.mul_zero, Nat.mul_one, lw, Int.natCast_zero, Int.natCast_one, Int.reduceMul, Int.reduceAdd, Int.reduceToNat, Nat.reduceMul, Nat.reduceAdd, Int.mul_zero, Int.mul_one, Int.add_zero, Int.zero_add, Int.toNat_zero, Int.toNat_one, List.set_cons_zero, List.set_cons_succ, List.length_cons, List.length_nil]))); exact ⟨rfl⟩)); (conv => whnf); (try simp only [Nat.zero_add, Nat.mul_zero, Nat.mul_one, lw, Int.natCast_zero, Int.natCast_one, Int.reduceMul, Int.reduceAdd, Int.reduceToNat, Nat.reduceMul, Nat.reduceAdd, Int.mul_zero, Int.mul_one, Int.add_zero, Int.zero_add, Int.toNat_zero, Int.toNat_one, List.set_cons_zero, List.set_cons_succ, List.length_cons, List.length_nil])) | ((try ((with_reducible refine .ext ?_); (conv => whnf); (try simp only [Nat.zero_add, Nat.mul_zero, Nat.mul_one, lw, Int.natCast_zero, Int.natCast_one, Int.reduceMul, Int.reduceAdd, Int.reduceToNat, Nat.reduceMul, Nat.reduceAdd, Int.mul_zero, Int.mul_one, Int.add_zero, Int.zero_add, Int.toNat_zero, Int.toNat_one, List.set_cons_zero, List.set_cons_succ, List.length_cons, List.length_nil]))); (with_reducible refine call_intro (r := ?_) ?_ ?_); rotate_left; (focus (first | exact (k1) | exact (k2))); (conv => whnf); (try simp only [Nat.zero_add, Nat.mul_zero, Nat.mul_one, lw, Int.natCast_zero, Int.natCast_one, Int.reduceMul, Int.reduceAdd, Int.reduceToNat, Nat.reduceMul, Nat.reduceAdd, Int.mul_zero, Int.mul_one, Int.add_zero, Int.zero_add, Int.toNat_zero, Int.toNat_one, List.set_cons_zero, List.set_cons_succ, List.length_cons, List.length_nil])))
          exact ⟨(false, lw (ev p p2 false) (ev p q2 false) (ev q p2 false) (ev q q2 false) 1, lw (ev p p2 true) (ev p q2 true) (ev q p2 true) (ev q q2 true) 1), ⟨fun h => (by cases h), fun _ => (by simp [h1, h2])⟩, V.wk⟩
        · (conv => whnf)
          (try simp only [Nat.zero_add, Nat.mul_zero, Nat.mul_one, lw, Int.natCast_zero, Int.natCast_one, Int.reduceMul, Int.reduceAdd, Int.reduceToNat, Nat.reduceMul, Nat.reduceAdd, Int.mul_zero, Int.mul_one, Int.add_zero, Int.zero_add, Int.toNat_zero, Int.toNat_one, List.set_cons_zero, List.set_cons_succ, List.length_cons, List.length_nil])
          repeat (first | (refine V.s1 ?_; (try simp only [Nat.zero_add, Nat.mul_zero, Nat.mul_one, lw, Int.natCast_zero, Int.natCast_one, Int.reduceMul, Int.reduceAdd, Int.reduceToNat, Nat.reduceMul, Nat.reduceAdd, Int.mul_zero, Int.mul_one, Int.add_zero, Int.zero_add, Int.toNat_zero, Int.toNat_one, List.set_cons_zero, List.set_cons_succ, List.length_cons, List.length_nil])) | ((with_reducible refine recheck_and ?_ ?_); (focus ((conv => whnf); (try simp only [Nat.zero_add, Nat.mul_zero, Nat.mul_one, lw, Int.natCast_zero, Int.natCast_one, Int.reduceMul, Int.reduceAdd, Int.reduceToNat, Nat.reduceMul, Nat.reduceAdd, Int.mul_zero, Int.mul_one, Int.add_zero, Int.zero_add, Int.toNat_zero, Int.toNat_one, List.set_cons_zero, List.set_cons_succ, List.length_cons, List.length_nil]); (repeat (refine V.s1 ?_; (try simp only [Nat.zero_add, Nat.mul_zero, Nat.mul_one, lw, Int.natCast_zero, Int.natCast_one, Int.reduceMul, Int.reduceAdd, Int.reduceToNat, Nat.reduceMul, Nat.reduceAdd, Int.mul_zero, Int.mul_one, Int.add_zero, Int.zero_add, Int.toNat_zero, Int.toNat_one, List.set_cons_zero, List.set_cons_succ, List.length_cons, List.length_nil]))); exact ⟨rfl⟩)); (conv => whnf); (try simp only [Nat.zero_add, Nat.mul_zero, Nat.mul_one, lw, Int.natCast_zero, Int.natCast_one, Int.reduceMul, Int.reduceAdd, Int.reduceToNat, Nat.reduceMul, Nat.reduceAdd, Int.mul_zero, Int.mul_one, Int.add_zero, Int.zero_add, Int.toNat_zero, Int.toNat_one, List.set_cons_zero, List.set_cons_succ, List.length_cons, List.length_nil])) | ((try ((with_reducible refine .ext ?_); (conv => whnf); (try simp only [Nat.zero_add, Nat.mul_zero, Nat.mul_one, lw, Int.natCast_zero, Int.natCast_one, Int.reduceMul, Int.reduceAdd, Int.reduceToNat, Nat.reduceMul, Nat.reduceAdd, Int.mul_zero, Int.mul_one, Int.add_zero, Int.zero_add, Int.toNat_zero, Int.toNat_one, List.set_cons_zero, List.set_cons_succ, List.length_cons, List.length_nil]))); (with_reducible refine call_intro (r := ?_) ?_ ?_); rotate_left; (focus (first | exact (k1) | exact (k2))); (conv => whnf); (try simp only [Nat.zero_add, Nat.mul_zero, Nat.mul_one, lw, Int.natCast_zero, Int.natCast_one, Int.reduceMul, Int.reduceAdd, Int.reduceToNat, Nat.reduceMul, Nat.reduceAdd, Int.mul_zero, Int.mul_one, Int.add_zero, Int.zero_add, Int.toNat_zero, Int.toNat_one, List.set_cons_zero, List.set_cons_succ, List.length_cons, List.length_nil])))
          exact ⟨(false, lw (ev p p2 false) (ev p q2 false) (ev q p2 false) (ev q q2 false) 1, lw (ev p p2 true) (ev p q2 true) (ev q p2 true) (ev q q2 true) 1), ⟨fun h => (by cases h), fun _ => (by simp [h1, h2])⟩, V.wk⟩
        · (conv => whnf)
          (try simp only [Nat.zero_add, Nat.mul_zero, Nat.mul_one, lw, Int.natCast_zero, Int.natCast_one, Int.reduceMul, Int.reduceAdd, Int.reduceToNat, Nat.reduceMul, Nat.reduceAdd, Int.mul_zero, Int.mul_one, Int.add_zero, Int.zero_add, Int.toNat_zero, Int.toNat_one, List.set_cons_zero, List.set_cons_succ, List.length_cons, List.length_nil])
          repeat (first | (refine V.s1 ?_; (try simp only [Nat.zero_add, Nat.mul_zero, Nat.mul_one, lw, Int.natCast_zero, Int.natCast_one, Int.reduceMul, Int.reduceAdd, Int.reduceToNat, Nat.reduceMul, Nat.reduceAdd, Int.mul_zero, Int.mul_one, Int.add_zero, Int.zero_add, Int.toNat_zero, Int.toNat_one, List.set_cons_zero, List.set_cons_succ, List.length_cons, List.length_nil])) | ((with_reducible refine recheck_and ?_ ?_); (focus ((conv => whnf); (try simp only [Nat.zero_add, Nat.mul_zero, Nat.mul_one, lw, Int.natCast_zero, Int.natCast_one, Int.reduceMul, Int.reduceAdd, Int.reduceToNat, Nat.reduceMul, Nat.reduceAdd, Int.mul_zero, Int.mul_one, Int.add_zero, Int.zero_add, Int.toNat_zero, Int.toNat_one, List.set_cons_zero, List.set_cons_succ, List.length_cons, List.length_nil]); (repeat (refine V.s1 ?_; (try simp only [Nat.zero_add, Nat.mul_zero, Nat.mul_one, lw, Int.natCast_zero, Int.natCast_one, Int.reduceMul, Int.reduceAdd, Int.reduceToNat, Nat.reduceMul, Nat.reduceAdd, Int.mul_zero, Int.mul_one, Int.add_zero, Int.zero_add, Int.toNat_zero, Int.toNat_one, List.set_cons_zero, List.set_cons_succ, List.length_cons, List.length_nil]))); exact ⟨rfl⟩)); (conv => whnf); (try simp only [Nat.zero_add, Nat.mul_zero, Nat.mul_one, lw, Int.natCast_zero, Int.natCast_one, Int.reduceMul, Int.reduceAdd, Int.reduceToNat, Nat.reduceMul, Nat.reduceAdd, Int.mul_zero, Int.mul_one, Int.add_zero, Int.zero_add, Int.toNat_zero, Int.toNat_one, List.set_cons_zero, List.set_cons_succ, List.length_cons, List.length_nil])) | ((try ((with_reducible refine .ext ?_); (conv => whnf); (try simp only [Nat.zero_add, Nat.mul_zero, Nat.mul_one, lw, Int.natCast_zero, Int.natCast_one, Int.reduceMul, Int.reduceAdd, Int.reduceToNat, Nat.reduceMul, Nat.reduceAdd, Int.mul_zero, Int.mul_one, Int.add_zero, Int.zero_add, Int.toNat_zero, Int.toNat_one, List.set_cons_zero, List.set_cons_succ, List.length_cons, List.length_nil]))); (with_reducible refine call_intro (r := ?_) ?_ ?_); rotate_left; (focus (first | exact (k1) | exact (k2))); (conv => whnf); (try simp only [Nat.zero_add, Nat.mul_zero, Nat.mul_one, lw, Int.natCast_zero, Int.natCast_one, Int.reduceMul, Int.reduceAdd, Int.reduceToNat, Nat.reduceMul, Nat.reduceAdd, Int.mul_zero, Int.mul_one, Int.add_zero, Int.zero_add, Int.toNat_zero, Int.toNat_one, List.set_cons_zero, List.set_cons_succ, List.length_cons, List.length_nil])))
          exact ⟨(false, lw (ev p p2 false) (ev p q2 false) (ev q p2 false) (ev q q2 false) 1, lw (ev p p2 true) (ev p q2 true) (ev q p2 true) (ev q q2 true) 1), ⟨fun h => (by cases h), fun _ => (by simp [h1, h2])⟩, V.wk⟩
        · (conv => whnf)
          (try simp only [Nat.zero_add, Nat.mul_zero, Nat.mul_one, lw, Int.natCast_zero, Int.natCast_one, Int.reduceMul, Int.reduceAdd, Int.reduceToNat, Nat.reduceMul, Nat.reduceAdd, Int.mul_zero, Int.mul_one, Int.add_zero, Int.zero_add, Int.toNat_zero, Int.toNat_one, List.set_cons_zero, List.set_cons_succ, List.length_cons, List.length_nil])
          repeat (first | (refine V.s1 ?_; (try simp only [Nat.zero_add, Nat.mul_zero, Nat.mul_one, lw, Int.natCast_zero, Int.natCast_one, Int.reduceMul, Int.reduceAdd, Int.reduceToNat, Nat.reduceMul, Nat.reduceAdd, Int.mul_zero, Int.mul_one, Int.add_zero, Int.zero_add, Int.toNat_zero, Int.toNat_one, List.set_cons_zero, List.set_cons_succ, List.length_cons, List.length_nil])) | ((with_reducible refine recheck_and ?_ ?_); (focus ((conv => whnf); (try simp only [Nat.zero_add, Nat.mul_zero, Nat.mul_one, lw, Int.natCast_zero, Int.natCast_one, Int.reduceMul, Int.reduceAdd, Int.reduceToNat, Nat.reduceMul, Nat.reduceAdd, Int.mul_zero, Int.mul_one, Int.add_zero, Int.zero_add, Int.toNat_zero, Int.toNat_one, List.set_cons_zero, List.set_cons_succ, List.length_cons, List.length_nil]); (repeat (refine V.s1 ?_; (try simp only [Nat.zero_add, Nat.mul_zero, Nat.mul_one, lw, Int.natCast_zero, Int.natCast_one, Int.reduceMul, Int.reduceAdd, Int.reduceToNat, Nat.reduceMul, Nat.reduceAdd, Int.mul_zero, Int.mul_one, Int.add_zero, Int.zero_add, Int.toNat_zero, Int.toNat_one, List.set_cons_zero, List.set_cons_succ, List.length_cons, List.length_nil]))); exact ⟨rfl⟩)); (conv => whnf); (try simp only [Nat.zero_add, Nat.mul_zero, Nat.mul_one, lw, Int.natCast_zero, Int.natCast_one, Int.reduceMul, Int.reduceAdd, Int.reduceToNat, Nat.reduceMul, Nat.reduceAdd, Int.mul_zero, Int.mul_one, Int.add_zero, Int.zero_add, Int.toNat_zero, Int.toNat_one, List.set_cons_zero, List.set_cons_succ, List.length_cons, List.length_nil])) | ((try ((with_reducible refine .ext ?_); (conv => whnf); (try simp only [Nat.zero_add, Nat.mul_zero, Nat.mul_one, lw, Int.natCast_zero, Int.natCast_one, Int.reduceMul, Int.reduceAdd, Int.reduceToNat, Nat.reduceMul, Nat.reduceAdd, Int.mul_zero, Int.mul_one, Int.add_zero, Int.zero_add, Int.toNat_zero, Int.toNat_one, List.set_cons_zero, List.set_cons_succ, List.length_cons, List.length_nil]))); (with_reducible refine call_intro (r := ?_) ?_ ?_); rotate_left; (focus (first | exact (k1) | exact (k2))); (conv => whnf); (try simp only [Nat.zero_add, Nat.mul_zero, Nat.mul_one, lw, Int.natCast_zero, Int.natCast_one, Int.reduceMul, Int.reduceAdd, Int.reduceToNat, Nat.reduceMul, Nat.reduceAdd, Int.mul_zero, Int.mul_one, Int.add_zero, Int.zero_add, Int.toNat_zero, Int.toNat_one, List.set_cons_zero, List.set_cons_succ, List.length_cons, List.length_nil])))
          exact ⟨2, ⟨by omega, fun _ => hj.2.1 (by omega), fun _ => ⟨h1, h2⟩⟩, by omega, V.wk⟩
      · subst e
        have o1 := hj.2.1 (by omega)
        have o2 := hj.2.2 (by omega)
        (conv => whnf)
        refine V.st ?_
        exact ⟨1, ⟨by omega, fun _ => ⟨o1.1, o1.2, o2.1, o2.2⟩, fun _ => by omega⟩, by omega, V.wk⟩
    · subst e
      (conv => whnf)
      refine V.st ?_
      refine lp_any (0 : Nat) (fun j => j ≤ 2 ∧ (1 ≤ j → okk q p2 false = true ∧ okk q p2 true = true) ∧ (2 ≤ j → okk q q2 false = true ∧ okk q q2 true = true)) (fun j => 2 - j)
        (fun j => [(33, .int .i64 j)]) (fun j => [(8, .arr .i64 (lw (ev p p2 false) (ev p q2 false) (ev q p2 false) (ev q q2 false) (2 + j))), (9, .arr .i64 (lw (ev p p2 true) (ev p q2 true) (ev q p2 true) (ev q q2 true) (2 + j)))]) ?_ ?_ ?_
      · exact V.wk
      · exact ⟨by omega, fun h => by omega, fun h => by omega⟩
      intro j hj
      rcases (by omega : j = 0 ∨ j = 1 ∨ j = 2) with e | e | e
      · subst e
        have k1 := hg q p2 false (by simp) (by simp)
        have k2 := hg q p2 true (by simp) (by simp)
        obtain ⟨b1, h1⟩ : ∃ b, okk q p2 false = b := ⟨_, rfl⟩
        obtain ⟨b2, h2⟩ : ∃ b, okk q p2 true = b := ⟨_, rfl⟩
        rw [h1] at k1
        rw [h2] at k2
        cases b1 <;> cases b2
        · (conv => whnf)
          (try simp only [Nat.zero_add, Nat.mul_zero, Nat.mul_one, lw, Int.natCast_zero, Int.natCast_one, Int.reduceMul, Int.reduceAdd, Int.reduceToNat, Nat.reduceMul, Nat.reduceAdd, Int.mul_zero, Int.mul_one, Int.add_zero, Int.zero_add, Int.toNat_zero, Int.toNat_one, List.set_cons_zero, List.set_cons_succ, List.length_cons, List.length_nil])
          repeat (first | (refine V.s1 ?_; (try simp only [Nat.zero_add, Nat.mul_zero, Nat.mul_one, lw, Int.natCast_zero, Int.natCast_one, Int.reduceMul, Int.reduceAdd, Int.reduceToNat, Nat.reduceMul, Nat.reduceAdd, Int.mul_zero, Int.mul_one, Int.add_zero, Int.zero_add, Int.toNat_zero, Int.toNat_one, List.set_cons_zero, List.set_cons_succ, List.length_cons, List.length_nil])) | ((with_reducible refine recheck_and ?_ ?_); (focus ((conv => whnf); (try simp only [Nat.zero_add, Nat.mul_zero, Nat.mul_one, lw, Int.natCast_zero, Int.natCast_one, Int.reduceMul, Int.reduceAdd, Int.reduceToNat, Nat.reduceMul, Nat.reduceAdd, Int.mul_zero, Int.mul_one, Int.add_zero, Int.zero_add, Int.toNat_zero, Int.toNat_one, List.set_cons_zero, List.set_cons_succ, List.length_cons, List.length_nil]); (repeat (refine V.s1 ?_; (try simp only [Nat.zero_add, Nat.mul_zero, Nat.mul_one, lw, Int.natCast_zero, Int.natCast_one, Int.reduceMul, Int.reduceAdd, Int.reduceToNat, Nat.reduceMul, Nat.reduceAdd, Int.mul_zero, Int.mul_one, Int.add_zero, Int.zero_add, Int.toNat_zero, Int.toNat_one, List.set_cons_zero, List.set_cons_succ, List.length_cons, List.length_nil]))); exact ⟨rfl⟩)); (conv => whnf); (try simp only [Nat.zero_add, Nat.mul_zero, Nat.mul_one, lw, Int.natCast_zero, Int.natCast_one, Int.reduceMul, Int.reduceAdd, Int.reduceToNat, Nat.reduceMul, Nat.reduceAdd, Int.mul_zero, Int.mul_one, Int.add_zero, Int.zero_add, Int.toNat_zero, Int.toNat_one, List.set_cons_zero, List.set_cons_succ, List.length_cons, List.length_nil])) | ((try ((with_reducible refine .ext ?_); (conv => whnf); (try simp only [Nat.zero_add, Nat.mul_zero, Nat.mul_one, lw, Int.natCast_zero, Int.natCast_one, Int.reduceMul, Int.reduceAdd, Int.reduceToNat, Nat.reduceMul, Nat.reduceAdd, Int.mul_zero, Int.mul_one, Int.add_zero, Int.zero_add, Int.toNat_zero, Int.toNat_one, List.set_cons_zero, List.set_cons_succ, List.length_cons, List.length_nil]))); (with_reducible refine call_intro (r := ?_) ?_ ?_); rotate_left; (focus (first | exact (k1) | exact (k2))); (conv => whnf); (try simp only [Nat.zero_add, Nat.mul_zero, Nat.mul_one, lw, Int.natCast_zero, Int.natCast_one, Int.reduceMul, Int.reduceAdd, Int.reduceToNat, Nat.reduceMul, Nat.reduceAdd, Int.mul_zero, Int.mul_one, Int.add_zero, Int.zero_add, Int.toNat_zero, Int.toNat_one, List.set_cons_zero, List.set_cons_succ, List.length_cons, List.length_nil])))
          exact ⟨(false, lw (ev p p2 false) (ev p q2 false) (ev q p2 false) (ev q q2 false) 2, lw (ev p p2 true) (ev p q2 true) (ev q p2 true) (ev q q2 true) 2), ⟨fun h => (by cases h), fun _ => (by simp [h1, h2])⟩, V.wk⟩
        · (conv => whnf)
          (try simp only [Nat.zero_add, Nat.mul_zero, Nat.mul_one, lw, Int.natCast_zero, Int.natCast_one, Int.reduceMul, Int.reduceAdd, Int.reduceToNat, Nat.reduceMul, Nat.reduceAdd, Int.mul_zero, Int.mul_one, Int.add_zero, Int.zero_add, Int.toNat_zero, Int.toNat_one, List.set_cons_zero, List.set_cons_succ, List.length_cons, List.length_nil])
          repeat (first | (refine V.s1 ?_; (try simp only [Nat.zero_add, Nat.mul_zero, Nat.mul_one, lw, Int.natCast_zero, Int.natCast_one, Int.reduceMul, Int.reduceAdd, Int.reduceToNat, Nat.reduceMul, Nat.reduceAdd, Int.mul_zero, Int.mul_one, Int.add_zero, Int.zero_add, Int.toNat_zero, Int.toNat_one, List.set_cons_zero, List.set_cons_succ, List.length_cons, List.length_nil])) | ((with_reducible refine recheck_and ?_ ?_); (focus ((conv => whnf); (try simp only [Nat.zero_add, Nat.mul_zero, Nat.mul_one, lw, Int.natCast_zero, Int.natCast_one, Int.reduceMul, Int.reduceAdd, Int.reduceToNat, Nat.reduceMul, Nat.reduceAdd, Int.mul_zero, Int.mul_one, Int.add_zero, Int.zero_add, Int.toNat_zero, Int.toNat_one, List.set_cons_zero, List.set_cons_succ, List.length_cons, List.length_nil]); (repeat (refine V.s1 ?_; (try simp only [Nat.zero_add, Nat.mul_zero, Nat.mul_one, lw, Int.natCast_zero, Int.natCast_one, Int.reduceMul, Int.reduceAdd, Int.reduceToNat, Nat.reduceMul, Nat.reduceAdd, Int.mul_zero, Int.mul_one, Int.add_zero, Int.zero_add, Int.toNat_zero, Int.toNat_one, List.set_cons_zero, List.set_cons_succ, List.length_cons, List.length_nil]))); exact ⟨rfl⟩)); (conv => whnf); (try simp only [Nat.zero_add, Nat.mul_zero, Nat.mul_one, lw, Int.natCast_zero, Int.natCast_one, Int.reduceMul, Int.reduceAdd, Int.reduceToNat, Nat.reduceMul, Nat.reduceAdd, Int.mul_zero, Int.mul_one, Int.add_zero, Int.zero_add, Int.toNat_zero, Int.toNat_one, List.set_cons_zero, List.set_cons_succ, List.length_cons, List.length_nil])) | ((try ((with_reducible refine .ext ?_); (conv => whnf); (try simp only [Nat.zero_add, Nat.mul_zero, Nat.mul_one, lw, Int.natCast_zero, Int.natCast_one, Int.reduceMul, Int.reduceAdd, Int.reduceToNat, Nat.reduceMul, Nat.reduceAdd, Int.mul_zero, Int.mul_one, Int.add_zero, Int.zero_add, Int.toNat_zero, Int.toNat_one, List.set_cons_zero, List.set_cons_succ, List.length_cons, List.length_nil]))); (with_reducible refine call_intro (r := ?_) ?_ ?_); rotate_left; (focus (first | exact (k1) | exact (k2))); (conv => whnf); (try simp only [Nat.zero_add, Nat.mul_zero, Nat.mul_one, lw, Int.natCast_zero, Int.natCast_one, Int.reduceMul, Int.reduceAdd, Int.reduceToNat, Nat.reduceMul, Nat.reduceAdd, Int.mul_zero, Int.mul_one, Int.add_zero, Int.zero_add, Int.toNat_zero, Int.toNat_one, List.set_cons_zero, List.set_cons_succ, List.length_cons, List.length_nil])))
          exact ⟨(false, lw (ev p p2 false) (ev p q2 false) (ev q p2 false) (ev q q2 false) 2, lw (ev p p2 true) (ev p q2 true) (ev q p2 true) (ev q q2 true) 2), ⟨fun h => (by cases h), fun _ => (by simp [h1, h2])⟩, V.wk⟩
        · (conv => whnf)
          (try simp only [Nat.zero_add, Nat.mul_zero, Nat.mul_one, lw, Int.natCast_zero, Int.natCast_one, Int.reduceMul, Int.reduceAdd, Int.reduceToNat, Nat.reduceMul, Nat.reduceAdd, Int.mul_zero, Int.mul_one, Int.add_zero, Int.zero_add, Int.toNat_zero, Int.toNat_one, List.set_cons_zero, List.set_cons_succ, List.length_cons, List.length_nil])
          repeat (first | (refine V.s1 ?_; (try simp only [Nat.zero_add, Nat.mul_zero, Nat.mul_one, lw, Int.natCast_zero, Int.natCast_one, Int.reduceMul, Int.reduceAdd, Int.reduceToNat, Nat.reduceMul, Nat.reduceAdd, Int.mul_zero, Int.mul_one, Int.add_zero, Int.zero_add, Int.toNat_zero, Int.toNat_one, List.set_cons_zero, List.set_cons_succ, List.length_cons, List.length_nil])) | ((with_reducible refine recheck_and ?_ ?_); (focus ((conv => whnf); (try simp only [Nat.zero_add, Nat.mul_zero, Nat.mul_one, lw, Int.natCast_zero, Int.natCast_one, Int.reduceMul, Int.reduceAdd, Int.reduceToNat, Nat.reduceMul, Nat.reduceAdd, Int.mul_zero, Int.mul_one, Int.add_zero, Int.zero_add, Int.toNat_zero, Int.toNat_one, List.set_cons_zero, List.set_cons_succ, List.length_cons, List.length_nil]); (repeat (refine V.s1 ?_; (try simp only [Nat.zero_add, Nat.mul_zero, Nat.mul_one, lw, Int.natCast_zero, Int.natCast_one, Int.reduceMul, Int.reduceAdd, Int.reduceToNat, Nat.reduceMul, Nat.reduceAdd, Int.mul_zero, Int.mul_one, Int.add_zero, Int.zero_add, Int.toNat_zero, Int.toNat_one, List.set_cons_zero, List.set_cons_succ, List.length_cons, List.length_nil]))); exact ⟨rfl⟩)); (conv => whnf); (try simp only [Nat.zero_add, Nat.mul_zero, Nat.mul_one, lw, Int.natCast_zero, Int.natCast_one, Int.reduceMul, Int.reduceAdd, Int.reduceToNat, Nat.reduceMul, Nat.reduceAdd, Int.mul_zero, Int.mul_one, Int.add_zero, Int.zero_add, Int.toNat_zero, Int.toNat_one, List.set_cons_zero, List.set_cons_succ, List.length_cons, List.length_nil])) | ((try ((with_reducible refine .ext ?_); (conv => whnf); (try simp only [Nat.zero_add, Nat.mul_zero, Nat.mul_one, lw, Int.natCast_zero, Int.natCast_one, Int.reduceMul, Int.reduceAdd, Int.reduceToNat, Nat.reduceMul, Nat.reduceAdd, Int.mul_zero, Int.mul_one, Int.add_zero, Int.zero_add, Int.toNat_zero, Int.toNat_one, List.set_cons_zero, List.set_cons_succ, List.length_cons, List.length_nil]))); (with_reducible refine call_intro (r := ?_) ?_ ?_); rotate_left; (focus (first | exact (k1) | exact (k2))); (conv => whnf); (try simp only [Nat.zero_add, Nat.mul_zero, Nat.mul_one, lw, Int.natCast_zero, Int.natCast_one, Int.reduceMul, Int.reduceAdd, Int.reduceToNat, Nat.reduceMul, Nat.reduceAdd, Int.mul_zero, Int.mul_one, Int.add_zero, Int.zero_add, Int.toNat_zero, Int.toNat_one, List.set_cons_zero, List.set_cons_succ, List.length_cons, List.length_nil])))
          exact ⟨(false, lw (ev p p2 false) (ev p q2 false) (ev q p2 false) (ev q q2 false) 2, lw (ev p p2 true) (ev p q2 true) (ev q p2 true) (ev q q2 true) 2), ⟨fun h => (by cases h), fun _ => (by simp [h1, h2])⟩, V.wk⟩
        · (conv => whnf)
          (try simp only [Nat.zero_add, Nat.mul_zero, Nat.mul_one, lw, Int.natCast_zero, Int.natCast_one, Int.reduceMul, Int.reduceAdd, Int.reduceToNat, Nat.reduceMul, Nat.reduceAdd, Int.mul_zero, Int.mul_one, Int.add_zero, Int.zero_add, Int.toNat_zero, Int.toNat_one, List.set_cons_zero, List.set_cons_succ, List.length_cons, List.length_nil])
          repeat (first | (refine V.s1 ?_; (try simp only [Nat.zero_add, Nat.mul_zero, Nat.mul_one, lw, Int.natCast_zero, Int.natCast_one, Int.reduceMul, Int.reduceAdd, Int.reduceToNat, Nat.reduceMul, Nat.reduceAdd, Int.mul_zero, Int.mul_one, Int.add_zero, Int.zero_add, Int.toNat_zero, Int.toNat_one, List.set_cons_zero, List.set_cons_succ, List.length_cons, List.length_nil])) | ((with_reducible refine recheck_and ?_ ?_); (focus ((conv => whnf); (try simp only [Nat.zero_add, Nat.mul_zero, Nat.mul_one, lw, Int.natCast_zero, Int.natCast_one, Int.reduceMul, Int.reduceAdd, Int.reduceToNat, Nat.reduceMul, Nat.reduceAdd, Int.mul_zero, Int.mul_one, Int.add_zero, Int.zero_add, Int.toNat_zero, Int.toNat_one, List.set_cons_zero, List.set_cons_succ, List.length_cons, List.length_nil]); (repeat (refine V.s1 ?_; (try simp only [Nat.zero_add, Nat.mul_zero, Nat.mul_one, lw, Int.natCast_zero, Int.natCast_one, Int.reduceMul, Int.reduceAdd, Int.reduceToNat, Nat.reduceMul, Nat.reduceAdd, Int.mul_zero, Int.mul_one, Int.add_zero, Int.zero_add, Int.toNat_zero, Int.toNat_one, List.set_cons_zero, List.set_cons_succ, List.length_cons, List.length_nil]))); exact ⟨rfl⟩)); (conv => whnf); (try simp only [Nat.zero_add, Nat.mul_zero, Nat.mul_one, lw, Int.natCast_zero, Int.natCast_one, Int.reduceMul, Int.reduceAdd, Int.reduceToNat, Nat.reduceMul, Nat.reduceAdd, Int.mul_zero, Int.mul_one, Int.add_zero, Int.zero_add, Int.toNat_zero, Int.toNat_one, List.set_cons_zero, List.set_cons_succ, List.length_cons, List.length_nil])) | ((try ((with_reducible refine .ext ?_); (conv => whnf); (try simp only [Nat.zero_add, Nat.mul_zero, Nat.mul_one, lw, Int.natCast_zero, Int.natCast_one, Int.reduceMul, Int.reduceAdd, Int.reduceToNat, Nat.reduceMul, Nat.reduceAdd, Int.mul_zero, Int.mul_one, Int.add_zero, Int.zero_add, Int.toNat_zero, Int.toNat_one, List.set_cons_zero, List.set_cons_succ, List.length_cons, List.length_nil]))); (with_reducible refine call_intro (r := ?_) ?_ ?_); rotate_left; (focus (first | exact (k1) | exact (k2))); (conv => whnf); (try simp only [Nat.zero_add, Nat.mul_zero, Nat.mul_one, lw, Int.natCast_zero, Int.natCast_one, Int.reduceMul, Int.reduceAdd, Int.reduceToNat, Nat.reduceMul, Nat.reduceAdd, Int.mul_zero, Int.mul_one, Int.add_zero, Int.zero_add, Int.toNat_zero, Int.toNat_one, List.set_cons_zero, List.set_cons_succ, List.length_cons, List.length_nil])))
          exact ⟨1, ⟨by omega, fun _ => ⟨h1, h2⟩, fun _ => by omega⟩, by omega, V.wk⟩
      · subst e
        have k1 := hg q q2 false (by simp) (by simp)
        have k2 := hg q q2 true (by simp) (by simp)
        obtain ⟨b1, h1⟩ : ∃ b, okk q q2 false = b := ⟨_, rfl⟩
        obtain ⟨b2, h2⟩ : ∃ b, okk q q2 true = b := ⟨_, rfl⟩
        rw [h1] at k1
        rw [h2] at k2
        cases b1 <;> cases b2
        · (conv => whnf)
          (try simp only [Nat.zero_add, Nat.mul_zero, Nat.mul_one, lw, Int.natCast_zero, Int.natCast_one, Int.reduceMul, Int.reduceAdd, Int.reduceToNat, Nat.reduceMul, Nat.reduceAdd, Int.mul_zero, Int.mul_one, Int.add_zero, Int.zero_add, Int.toNat_zero, Int.toNat_one, List.set_cons_zero, List.set_cons_succ, List.length_cons, List.length_nil])
          repeat (first | (refine V.s1 ?_; (try simp only [Nat.zero_add, Nat.mul_zero, Nat.mul_one, lw, Int.natCast_zero, Int.natCast_one, Int.reduceMul, Int.reduceAdd, Int.reduceToNat, Nat.reduceMul, Nat.reduceAdd, Int.mul_zero, Int.mul_one, Int.add_zero, Int.zero_add, Int.toNat_zero, Int.toNat_one, List.set_cons_zero, List.set_cons_succ, List.length_cons, List.length_nil])) | ((with_reducible refine recheck_and ?_ ?_); (focus ((conv => whnf); (try simp only [Nat.zero_add, Nat.mul_zero, Nat.mul_one, lw, Int.natCast_zero, Int.natCast_one, Int.reduceMul, Int.reduceAdd, Int.reduceToNat, Nat.reduceMul, Nat.reduceAdd, Int.mul_zero, Int.mul_one, Int.add_zero, Int.zero_add, Int.toNat_zero, Int.toNat_one, List.set_cons_zero, List.set_cons_succ, List.length_cons, List.length_nil]); (repeat (refine V.s1 ?_; (try simp only [Nat.zero_add, Nat.mul_zero, Nat.mul_one, lw, Int.natCast_zero, Int.natCast_one, Int.reduceMul, Int.reduceAdd, Int.reduceToNat, Nat.reduceMul, Nat.reduceAdd, Int.mul_zero, Int.mul_one, Int.add_zero, Int.zero_add, Int.toNat_zero, Int.toNat_one, List.set_cons_zero, List.set_cons_succ, List.length_cons, List.length_nil]))); exact ⟨rfl⟩)); (conv => whnf); (try simp only [Nat.zero_add, Nat.mul_zero, Nat.mul_one, lw, Int.natCast_zero, Int.natCast_one, Int.reduceMul, Int.reduceAdd, Int.reduceToNat, Nat.reduceMul, Nat.reduceAdd, Int.mul_zero, Int.mul_one, Int.add_zero, Int.zero_add, Int.toNat_zero, Int.toNat_one, List.set_cons_zero, List.set_cons_succ, List.length_cons, List.length_nil])) | ((try ((with_reducible refine .ext ?_); (conv => whnf); (try simp only [Nat.zero_add, Nat.mul_zero, Nat.mul_one, lw, Int.natCast_zero, Int.natCast_one, Int.reduceMul, Int.reduceAdd, Int.reduceToNat, Nat.reduceMul, Nat.reduceAdd, Int.mul_zero, Int.mul_one, Int.add_zero, Int.zero_add, Int.toNat_zero, Int.toNat_one, List.set_cons_zero, List.set_cons_succ, List.length_cons, List.length_nil]))); (with_reducible refine call_intro (r := ?_) ?_ ?_); rotate_left; (focus (first | exact (k1) | exact (k2))); (conv => whnf); (try simp only [Nat.zero_add, Nat.mul_zero, Nat.mul_one, lw, Int.natCast_zero, Int.natCast_one, Int.reduceMul, Int.reduceAdd, Int.reduceToNat, Nat.reduceMul, Nat.reduceAdd, Int.mul_zero, Int.mul_one, Int.add_zero, Int.zero_add, Int.toNat_zero, Int.toNat_one, List.set_cons_zero, List.set_cons_succ, List.length_cons, List.length_nil])))
          exact ⟨(false, lw (ev p p2 false) (ev p q2 false) (ev q p2 false) (ev q q2 false) 3, lw (ev p p2 true) (ev p q2 true) (ev q p2 true) (ev q q2 true) 3), ⟨fun h => (by cases h), fun _ => (by simp [h1, h2])⟩, V.wk⟩
        · (conv => whnf)
          (try simp only [Nat.zero_add, Nat.mul_zero, Nat.mul_one, lw, Int.natCast_zero, Int.natCast_one, Int.reduceMul, Int.reduceAdd, Int.reduceToNat, Nat.reduceMul, Nat.reduceAdd, Int.mul_zero, Int.mul_one, Int.add_zero, Int.zero_add, Int.toNat_zero, Int.toNat_one, List.set_cons_zero, List.set_cons_succ, List.length_cons, List.length_nil])
          repeat (first | (refine V.s1 ?_; (try simp only [Nat.zero_add, Nat.mul_zero, Nat.mul_one, lw, Int.natCast_zero, Int.natCast_one, Int.reduceMul, Int.reduceAdd, Int.reduceToNat, Nat.reduceMul, Nat.reduceAdd, Int.mul_zero, Int.mul_one, Int.add_zero, Int.zero_add, Int.toNat_zero, Int.toNat_one, List.set_cons_zero, List.set_cons_succ, List.length_cons, List.length_nil])) | ((with_reducible refine recheck_and ?_ ?_); (focus ((conv => whnf); (try simp only [Nat.zero_add, Nat.mul_zero, Nat.mul_one, lw, Int.natCast_zero, Int.natCast_one, Int.reduceMul, Int.reduceAdd, Int.reduceToNat, Nat.reduceMul, Nat.reduceAdd, Int.mul_zero, Int.mul_one, Int.add_zero, Int.zero_add, Int.toNat_zero, Int.toNat_one, List.set_cons_zero, List.set_cons_succ, List.length_cons, List.length_nil]); (repeat (refine V.s1 ?_; (try simp only [Nat.zero_add, Nat.mul_zero, Nat.mul_one, lw, Int.natCast_zero, Int.natCast_one, Int.reduceMul, Int.reduceAdd, Int.reduceToNat, Nat.reduceMul, Nat.reduceAdd, Int.mul_zero, Int.mul_one, Int.add_zero, Int.zero_add, Int.toNat_zero, Int.toNat_one, List.set_cons_zero, List.set_cons_succ, List.length_cons, List.length_nil]))); exact ⟨rfl⟩)); (conv => whnf); (try simp only [Nat.zero_add, Nat.mul_zero, Nat.mul_one, lw, Int.natCast_zero, Int.natCast_one, Int.reduceMul, Int.reduceAdd, Int.reduceToNat, Nat.reduceMul, Nat.reduceAdd, Int.mul_zero, Int.mul_one, Int.add_zero, Int.zero_add, Int.toNat_zero, Int.toNat_one, List.set_cons_zero, List.set_cons_succ, List.length_cons, List.length_nil])) | ((try ((with_reducible refine .ext ?_); (conv => whnf); (try simp only [Nat.zero_add, Nat.mul_zero, Nat.mul_one, lw, Int.natCast_zero, Int.natCast_one, Int.reduceMul, Int.reduceAdd, Int.reduceToNat, Nat.reduceMul, Nat.reduceAdd, Int.mul_zero, Int.mul_one, Int.add_zero, Int.zero_add, Int.toNat_zero, Int.toNat_one, List.set_cons_zero, List.set_cons_succ, List.length_cons, List.length_nil]))); (with_reducible refine call_intro (r := ?_) ?_ ?_); rotate_left; (focus (first | exact (k1) | exact (k2))); (conv => whnf); (try simp only [Nat.zero_add, Nat.mul_zero, Nat.mul_one, lw, Int.natCast_zero, Int.natCast_one, Int.reduceMul, Int.reduceAdd, Int.reduceToNat, Nat.reduceMul, Nat.reduceAdd, Int.mul_zero, Int.mul_one, Int.add_zero, Int.zero_add, Int.toNat_zero, Int.toNat_one, List.set_cons_zero, List.set_cons_succ, List.length_cons, List.length_nil])))
          exact ⟨(false, lw (ev p p2 false) (ev p q2 false) (ev q p2 false) (ev q q2 false) 3, lw (ev p p2 true) (ev p q2 true) (ev q p2 true) (ev q q2 true) 3), ⟨fun h => (by cases h), fun _ => (by simp [h1, h2])⟩, V.wk⟩
        · (conv => whnf)
          (try simp only [Nat.zero_add, Nat.mul_zero, Nat.mul_one, lw, Int.natCast_zero, Int.natCast_one, Int.reduceMul, Int.reduceAdd, Int.reduceToNat, Nat.reduceMul, Nat.reduceAdd, Int.mul_zero, Int.mul_one, Int.add_zero, Int.zero_add, Int.toNat_zero, Int.toNat_one, List.set_cons_zero, List.set_cons_succ, List.length_cons, List.length_nil])
          repeat (first | (refine V.s1 ?_; (try simp only [Nat.zero_add, Nat.mul_zero, Nat.mul_one, lw, Int.natCast_zero, Int.natCast_one, Int.reduceMul, Int.reduceAdd, Int.reduceToNat, Nat.reduceMul, Nat.reduceAdd, Int.mul_zero, Int.mul_one, Int.add_zero, Int.zero_add, Int.toNat_zero, Int.toNat_one, List.set_cons_zero, List.set_cons_succ, List.length_cons, List.length_nil])) | ((with_reducible refine recheck_and ?_ ?_); (focus ((conv => whnf); (try simp only [Nat.zero_add, Nat.mul_zero, Nat.mul_one, lw, Int.natCast_zero, Int.natCast_one, Int.reduceMul, Int.reduceAdd, Int.reduceToNat, Nat.reduceMul, Nat.reduceAdd, Int.mul_zero, Int.mul_one, Int.add_zero, Int.zero_add, Int.toNat_zero, Int.toNat_one, List.set_cons_zero, List.set_cons_succ, List.length_cons, List.length_nil]); (repeat (refine V.s1 ?_; (try simp only [Nat.zero_add, Nat.mul_zero, Nat.mul_one, lw, Int.natCast_zero, Int.natCast_one, Int.reduceMul, Int.reduceAdd, Int.reduceToNat, Nat.reduceMul, Nat.reduceAdd, Int.mul_zero, Int.mul_one, Int.add_zero, Int.zero_add, Int.toNat_zero, Int.toNat_one, List.set_cons_zero, List.set_cons_succ, List.length_cons, List.length_nil]))); exact ⟨rfl⟩)); (conv => whnf); (try simp only [Nat.zero_add, Nat.mul_zero, Nat.mul_one, lw, Int.natCast_zero, Int.natCast_one, Int.reduceMul, Int.reduceAdd, Int.reduceToNat, Nat.reduceMul, Nat.reduceAdd, Int.mul_zero, Int.mul_one, Int.add_zero, Int.zero_add, Int.toNat_zero, Int.toNat_one, List.set_cons_zero, List.set_cons_succ, List.length_cons, List.length_nil])) | ((try ((with_reducible refine .ext ?_); (conv => whnf); (try simp only [Nat.zero_add, Nat.mul_zero, Nat.mul_one, lw, Int.natCast_zero, Int.natCast_one, Int.reduceMul, Int.reduceAdd, Int.reduceToNat, Nat.reduceMul, Nat.reduceAdd, Int.mul_zero, Int.mul_one, Int.add_zero, Int.zero_add, Int.toNat_zero, Int.toNat_one, List.set_cons_zero, List.set_cons_succ, List.length_cons, List.length_nil]))); (with_reducible refine call_intro (r := ?_) ?_ ?_); rotate_left; (focus (first | exact (k1) | exact (k2))); (conv => whnf); (try simp only [Nat.zero_add, Nat.mul_zero, Nat.mul_one, lw, Int.natCast_zero, Int.natCast_one, Int.reduceMul, Int.reduceAdd, Int.reduceToNat, Nat.reduceMul, Nat.reduceAdd, Int.mul_zero, Int.mul_one, Int.add_zero, Int.zero_add, Int.toNat_zero, Int.toNat_one, List.set_cons_zero, List.set_cons_succ, List.length_cons, List.length_nil])))
          exact ⟨(false, lw (ev p p2 false) (ev p q2 false) (ev q p2 false) (ev q q2 false) 3, lw (ev p p2 true) (ev p q2 true) (ev q p2 true) (ev q q2 true) 3), ⟨fun h => (by cases h), fun _ => (by simp [h1, h2])⟩, V.wk⟩
        · (conv => whnf)
          (try simp only [Nat.zero_add, Nat.mul_zero, Nat.mul_one, lw, Int.natCast_zero, Int.natCast_one, Int.reduceMul, Int.reduceAdd, Int.reduceToNat, Nat.reduceMul, Nat.reduceAdd, Int.mul_zero, Int.mul_one, Int.add_zero, Int.zero_add, Int.toNat_zero, Int.toNat_one, List.set_cons_zero, List.set_cons_succ, List.length_cons, List.length_nil])
          repeat (first | (refine V.s1 ?_; (try simp only [Nat.zero_add, Nat.mul_zero, Nat.mul_one, lw, Int.natCast_zero, Int.natCast_one, Int.reduceMul, Int.reduceAdd, Int.reduceToNat, Nat.reduceMul, Nat.reduceAdd, Int.mul_zero, Int.mul_one, Int.add_zero, Int.zero_add, Int.toNat_zero, Int.toNat_one, List.set_cons_zero, List.set_cons_succ, List.length_cons, List.length_nil])) | ((with_reducible refine recheck_and ?_ ?_); (focus ((conv => whnf); (try simp only [Nat.zero_add, Nat.mul_zero, Nat.mul_one, lw, Int.natCast_zero, Int.natCast_one, Int.reduceMul, Int.reduceAdd, Int.reduceToNat, Nat.reduceMul, Nat.reduceAdd, Int.mul_zero, Int.mul_one, Int.add_zero, Int.zero_add, Int.toNat_zero, Int.toNat_one, List.set_cons_zero, List.set_cons_succ, List.length_cons, List.length_nil]); (repeat (refine V.s1 ?_; (try simp only [Nat.zero_add, Nat.mul_zero, Nat.mul_one, lw, Int.natCast_zero, Int.natCast_one, Int.reduceMul, Int.reduceAdd, Int.reduceToNat, Nat.reduceMul, Nat.reduceAdd, Int.mul_zero, Int.mul_one, Int.add_zero, Int.zero_add, Int.toNat_zero, Int.toNat_one, List.set_cons_zero, List.set_cons_succ, List.length_cons, List.length_nil]))); exact ⟨rfl⟩)); (conv => whnf); (try simp only [Nat.zero_add, Nat.mul_zero, Nat.mul_one, lw, Int.natCast_zero, Int.natCast_one, Int.reduceMul, Int.reduceAdd, Int.reduceToNat, Nat.reduceMul, Nat.reduceAdd, Int.mul_zero, Int.mul_one, Int.add_zero, Int.zero_add, Int.toNat_zero, Int.toNat_one, List.set_cons_zero, List.set_cons_succ, List.length_cons, List.length_nil])) | ((try ((with_reducible refine .ext ?_); (conv => whnf); (try simp only [Nat.zero_add, Nat.mul_zero, Nat.mul_one, lw, Int.natCast_zero, Int.natCast_one, Int.reduceMul, Int.reduceAdd, Int.reduceToNat, Nat.reduceMul, Nat.reduceAdd, Int.mul_zero, Int.mul_one, Int.add_zero, Int.zero_add, Int.toNat_zero, Int.toNat_one, List.set_cons_zero, List.set_cons_succ, List.length_cons, List.length_nil]))); (with_reducible refine call_intro (r := ?_) ?_ ?_); rotate_left; (focus (first | exact (k1) | exact (k2))); (conv => whnf); (try simp only [Nat.zero_add, Nat.mul_zero, Nat.mul_one, lw, Int.natCast_zero, Int.natCast_one, Int.reduceMul, Int.reduceAdd, Int.reduceToNat, Nat.reduceMul, Nat.reduceAdd, Int.mul_zero, Int.mul_one, Int.add_zero, Int.zero_add, Int.toNat_zero, Int.toNat_one, List.set_cons_zero, List.set_cons_succ, List.length_cons, List.length_nil])))
          exact ⟨2, ⟨by omega, fun _ => hj.2.1 (by omega), fun _ => ⟨h1, h2⟩⟩, by omega, V.wk⟩
      · subst e
        have o1 := hj.2.1 (by omega)
        have o2 := hj.2.2 (by omega)
        (conv => whnf)
        refine V.st ?_
        exact ⟨2, ⟨by omega, fun _ => hi.2.1 (by omega), fun _ => ⟨o1.1, o1.2, o2.1, o2.2⟩⟩, by omega, V.wk⟩
    · subst e
      have o1 := hi.2.1 (by omega)
      have o2 := hi.2.2 (by omega)
      (conv => whnf)
      refine V.st ?_
      exact ⟨(true, lw (ev p p2 false) (ev p q2 false) (ev q p2 false) (ev q q2 false) 4, lw (ev p p2 true) (ev p q2 true) (ev q p2 true) (ev q q2 true) 4), ⟨fun _ => ⟨by simp [o1.1, o1.2.1, o1.2.2.1, o1.2.2.2, o2.1, o2.2.1, o2.2.2.1, o2.2.2.2], rfl, rfl⟩, fun h => (by cases h)⟩, V.wk⟩
  · rintro ⟨b, ls, hs⟩ hy
    cases b
    · rw [if_neg (by rw [hy.2 rfl]; simp)]
      clear hy
      dsimp only
      (conv => whnf)
      refine V.st ?_
      exact Fin.of rfl
    · obtain ⟨a1, a2, a3⟩ := hy.1 rfl
      dsimp only at a2 a3
      rw [if_pos a1]
      subst a2 a3
      clear hy
      dsimp only
      have kl := least_c (ev p p2 false) [ev p q2 false, ev q p2 false, ev q q2 false] (by simp)
      have kg := greatest_c (ev p p2 true) [ev p q2 true, ev q p2 true, ev q q2 true] (by simp)
      rw [show [ev p q2 false, ev q p2 false, ev q q2 false].foldl min (ev p p2 false) = min (min (min (ev p p2 false) (ev p q2 false)) (ev q p2 false)) (ev q q2 false) from rfl] at kl
      rw [show [ev p q2 true, ev q p2 true, ev q q2 true].foldl max (ev p p2 true) = max (max (max (ev p p2 true) (ev p q2 true)) (ev q p2 true)) (ev q q2 true) from rfl] at kg
      have km := made_b (min (min (min (ev p p2 false) (ev p q2 false)) (ev q p2 false)) (ev q q2 false)) (max (max (max (ev p p2 true) (ev p q2 true)) (ev q p2 true)) (ev q q2 true))
      generalize min (min (min (ev p p2 false) (ev p q2 false)) (ev q p2 false)) (ev q q2 false) = lo at *
      generalize max (max (max (ev p p2 true) (ev p q2 true)) (ev q p2 true)) (ev q q2 true) = hi at *
      generalize mk lo hi = r at *
      (conv => whnf)
      refine V.st ?_
      refine ⟨(.take 0 (.take 2 (.ev (.cons 1 [2] (.ev (.cons 3 [] (.ev (.cons 4 [] (.take 5 (.take 6 (.ev (.cons 7 [] (.take 8 (.done)) (.nil))))) (.nil))) (.nil))) (.nil))))), ⟨by kernel_rfl, by kernel_rfl, by kernel_rfl⟩, .go ?_⟩
      (conv => whnf)
      refine V.st ?_
      repeat ((try ((with_reducible refine .ext ?_); (conv => whnf))); (with_reducible refine call_intro (r := ?_) ?_ ?_); rotate_left; (focus (first | exact (kl) | exact (kg) | exact (km))); (conv => whnf); refine V.st ?_)
      exact Fin.of rfl
end Go.Proofs.YtplflfnfodghmaaGreatDoor
end
section
namespace Go.Nb
structure Tr (B top v2 head u2 : Int) : Prop where
  hB : 2 ≤ B
  t1 : 1 ≤ top
  tB : top < B
  v0 : 0 ≤ v2
  vB : v2 < B
  u0 : 0 ≤ u2
  uB : u2 < B
  h0 : 0 ≤ head
  lt : head * B + u2 < B * (top * B + v2)
section
variable {B top v2 head u2 : Int}
theorem Tr.kn (T : Tr B top v2 head u2) : Kn B top v2 0 u2 0 head (head * B + u2) (top * B + v2) 1 :=
  { hB := T.hB, hP := by omega, ht := T.t1, hv := by omega, hu := by omega, v20 := T.v0, v2B := T.vB, u20 := T.u0, u2B := T.uB, vr0 := by omega, vrP := by omega, ur0 := by omega, urP := by omega, hh := T.h0, htB := T.tB, lt := T.lt }
theorem Tr.vpos (T : Tr B top v2 head u2) : 0 < top * B + v2 := T.kn.vpos
theorem Tr.qnn (T : Tr B top v2 head u2) : 0 ≤ (head * B + u2) / (top * B + v2) := by
  have h1 : 0 ≤ head * B := Int.mul_nonneg T.h0 (by have := T.hB; omega)
  exact Int.ediv_nonneg (by have := T.u0; omega) (by have := T.vpos; omega)
theorem Tr.qmul (T : Tr B top v2 head u2) : (head * B + u2) / (top * B + v2) * (top * B + v2) ≤ head * B + u2 := Int.ediv_mul_le _ (by have := T.vpos; omega)
theorem Tr.init (T : Tr B top v2 head u2) : (head * B + u2) / (top * B + v2) ≤ head / top := T.kn.init T.qnn T.qmul
theorem Tr.step (T : Tr B top v2 head u2) {q r : Int} (hq : (head * B + u2) / (top * B + v2) ≤ q) (hr : head = q * top + r) (hc : B ≤ q ∨ r * B + u2 < q * v2) :
    (head * B + u2) / (top * B + v2) ≤ q - 1 ∧ head = (q - 1) * top + (r + top) :=
  ⟨T.kn.step T.qnn T.qmul hq hr hc, by rw [Int.sub_mul, Int.one_mul]; omega⟩
theorem Tr.fin (T : Tr B top v2 head u2) {q : Int} (hq : (head * B + u2) / (top * B + v2) ≤ q) (h : q * (top * B + v2) ≤ head * B + u2) : q = (head * B + u2) / (top * B + v2) := by
  have := (Int.le_ediv_iff_mul_le T.vpos).2 h
  omega
theorem Tr.exit1 (T : Tr B top v2 head u2) {q r : Int} (hq : (head * B + u2) / (top * B + v2) ≤ q) (hr : head = q * top + r) (h2 : q * v2 ≤ r * B + u2) : q = (head * B + u2) / (top * B + v2) := by
  refine T.fin hq ?_
  have e : head * B = q * (top * B) + r * B := by rw [hr, Int.add_mul, Int.mul_assoc]
  rw [Int.mul_add, e]
  omega
theorem Tr.exit2 (T : Tr B top v2 head u2) {q r : Int} (hq : (head * B + u2) / (top * B + v2) ≤ q) (hr : head = q * top + r) (h2 : B ≤ r) : q < B ∧ q = (head * B + u2) / (top * B + v2) := by
  have hq0 : 0 ≤ q := Int.le_trans T.qnn hq
  have hqB := (T.kn.out2 hq0 hr h2).1
  refine ⟨hqB, T.fin hq ?_⟩
  have e : head * B = q * (top * B) + r * B := by rw [hr, Int.add_mul, Int.mul_assoc]
  have h3 : B * B ≤ r * B := Int.mul_le_mul_of_nonneg_right h2 (by have := T.hB; omega)
  have h4 : q * v2 ≤ B * B := Int.mul_le_mul (by omega) (by have := T.vB; omega) T.v0 (by have := T.hB; omega)
  have := T.u0
  rw [Int.mul_add, e]
  omega
theorem Tr.lt' (T : Tr B top v2 head u2) : (head * B + u2) / (top * B + v2) < B := T.kn.qlt T.qmul
end
structure Tq (B top v2 head u2 Q : Int) : Prop where
  T : Tr B top v2 head u2
  e : (head * B + u2) / (top * B + v2) = Q
section
variable {B top v2 head u2 Q : Int}
theorem Tq.init (T : Tq B top v2 head u2 Q) : Q ≤ head / top := by rw [← T.e]; exact T.T.init
theorem Tq.step (T : Tq B top v2 head u2 Q) {q r : Int} (hq : Q ≤ q) (hr : head = q * top + r) (hc : B ≤ q ∨ r * B + u2 < q * v2) : Q ≤ q - 1 ∧ head = (q - 1) * top + (r + top) := by
  rw [← T.e] at hq ⊢; exact T.T.step hq hr hc
theorem Tq.exit1 (T : Tq B top v2 head u2 Q) {q r : Int} (hq : Q ≤ q) (hr : head = q * top + r) (h2 : q * v2 ≤ r * B + u2) : q = Q := by
  rw [← T.e] at hq ⊢; exact T.T.exit1 hq hr h2
theorem Tq.exit2 (T : Tq B top v2 head u2 Q) {q r : Int} (hq : Q ≤ q) (hr : head = q * top + r) (h2 : B ≤ r) : q = Q := by
  rw [← T.e] at hq ⊢; exact (T.T.exit2 hq hr h2).2
theorem Tq.lt (T : Tq B top v2 head u2 Q) : Q < B := by rw [← T.e]; exact T.T.lt'
end
theorem two_digits {B V u1 u0 h : Nat} (hV : 0 < V) (hu : u0 < B) :
    ((h * B + u1) * B + u0) / V = (h * B + u1) / V * B + ((h * B + u1) % V * B + u0) / V ∧ ((h * B + u1) * B + u0) % V = ((h * B + u1) % V * B + u0) % V := by
  generalize h * B + u1 = U
  have e : U * B + u0 = U % V * B + u0 + V * (U / V * B) := by
    have h1 := Nat.div_add_mod U V
    have h2 : U * B = (V * (U / V) + U % V) * B := by rw [h1]
    rw [h2, Nat.add_mul, Nat.mul_assoc]
    omega
  constructor
  · rw [e, Nat.add_mul_div_left _ _ hV]; omega
  · rw [e, Nat.add_mul_mod_self_left]
theorem shl_or {hi lo s : Nat} (hs : s ≤ 64) (hl : lo < 18446744073709551616) : (hi * 2 ^ s ||| lo / 2 ^ (64 - s)) = (hi * 18446744073709551616 + lo) * 2 ^ s / 18446744073709551616 := by
  have hp : 2 ^ s * 2 ^ (64 - s) = 18446744073709551616 := by rw [← Nat.pow_add, show s + (64 - s) = 64 by omega]
  have hlt : lo / 2 ^ (64 - s) < 2 ^ s := by
    refine Nat.div_lt_of_lt_mul ?_
    rw [Nat.mul_comm, hp]; exact hl
  rw [Nat.mul_comm hi, ← Nat.two_pow_add_eq_or_of_lt hlt, Nat.add_mul]
  have e1 : hi * 18446744073709551616 * 2 ^ s = 18446744073709551616 * (2 ^ s * hi) := by ac_rfl
  rw [e1, Nat.add_comm, Nat.add_comm _ (lo * 2 ^ s), Nat.add_mul_div_left _ _ (by omega)]
  congr 1
  have e2 : lo * 2 ^ s / (2 ^ s * 2 ^ (64 - s)) = lo / 2 ^ (64 - s) := by
    rw [← Nat.div_div_eq_div_mul, Nat.mul_div_cancel _ (Nat.pow_pos (by omega))]
  rw [hp] at e2
  exact e2.symm
end Go.Nb
end
