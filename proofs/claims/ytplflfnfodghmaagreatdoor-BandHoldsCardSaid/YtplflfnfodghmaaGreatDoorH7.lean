/- What some functions of the program answer at values that mean given lists, texts and numbers, each proved of the program's own code: part 7 of 8. Conditions: those that each theorem names. -/
import Derived.Test.YtplflfnfodghmaaGreatDoorH6
import Derived.Test.YtplflfnfodghmaaGreatDoorH4
import Derived.Test.YtplflfnfodghmaaGreatDoorH3
import Derived.Test.YtplflfnfodghmaaGreatDoorH1
set_option linter.unusedSimpArgs false
set_option linter.unusedVariables false
section
/-! arguments: drafted fractions, fractions as texts -/
set_option linter.unusedSimpArgs false
set_option linter.unusedVariables false
set_option maxHeartbeats 8000000
set_option maxRecDepth 100000
namespace Go.Proofs.YtplflfnfodghmaaGreatDoor
open Go Go.V Go.Nb Go.RowKit
def fdraftL : List Lf := [.bool, .ints .u16, .int .u16, .bool, .ints .u16, .int .u16]
def fracL : List Lf := [.str, .str]
theorem fdraft_den {w : World} {cs : Array Value} (h : leavesOk w fdraftL cs.toList) : ∃ b xs z b2 xs2 z2, Den Env.dummy (pubOf w) (.agg [.bool b, .ints .u16 xs, .int .u16 z, .bool b2, .ints .u16 xs2, .int .u16 z2]) (.agg cs) ∧
    (0 ≤ z ∧ z ≤ 65535) ∧ (0 ≤ z2 ∧ z2 ≤ 65535) := by
  obtain ⟨v0, r0, e0, ⟨b, h0⟩, v1, r1, e1, ⟨xs, h1⟩, v2, r2, e2, ⟨z, h2, h2'⟩, v3, r3, e3, ⟨b2, h3⟩, v4, r4, e4, ⟨xs2, h4⟩, v5, r5, e5, ⟨z2, h5, h5'⟩, e6⟩ := h
  subst e6 e5 e4 e3 e2 e1
  obtain rfl : cs = #[v0, v1, v2, v3, v4, v5] := by cases cs; simp_all
  subst h0 h2 h3 h5
  have g1 := h1
  have g4 := h4
  obtain ⟨a1, c1, x1, _, y1, z1, _⟩ := g1
  obtain ⟨a4, c4, x4, _, y4, z4, _⟩ := g4
  refine ⟨b, xs, z, b2, xs2, z2, ⟨[.bool b, v1, .int .u16 z, .bool b2, v4, .int .u16 z2], rfl, ⟨_, _, rfl, rfl, v1, _, rfl, h1, _, _, rfl, ⟨rfl, h2'⟩, _, _, rfl, rfl, v4, _, rfl, h4, _, _, rfl, ⟨rfl, h5'⟩, rfl⟩, ?_⟩, by simpa [InR, V.lo, V.hi] using h2', by simpa [InR, V.lo, V.hi] using h5'⟩
  subst x1 x4
  intro v hv
  simp only [List.mem_cons, List.not_mem_nil, or_false] at hv
  rcases hv with rfl | rfl | rfl | rfl | rfl | rfl <;> rfl
theorem frac_den {w : World} {cs : Array Value} (h : leavesOk w fracL cs.toList) : ∃ s t : List UInt8, Den Env.dummy (pubOf w) (.agg [.str s, .str t]) (.agg cs) ∧ s.length ≤ 281474976710656 ∧ t.length ≤ 281474976710656 := by
  obtain ⟨v0, r0, e0, ⟨s, h0, h0'⟩, v1, r1, e1, ⟨t, h1, h1'⟩, e2⟩ := h
  subst e2 e1
  obtain rfl : cs = #[v0, v1] := by cases cs; simp_all
  subst h0 h1
  refine ⟨s, t, ⟨_, rfl, ⟨_, _, rfl, ⟨rfl, h0'⟩, _, _, rfl, ⟨rfl, h1'⟩, rfl⟩, ?_⟩, h0', h1'⟩
  intro v hv
  simp only [List.mem_cons, List.not_mem_nil, or_false] at hv
  rcases hv with rfl | rfl <;> rfl
end Go.Proofs.YtplflfnfodghmaaGreatDoor
end
section
/-! small drafted fractions -/
set_option linter.unusedSimpArgs false
set_option linter.unusedVariables false
set_option maxHeartbeats 8000000
set_option maxRecDepth 100000
namespace Go.Proofs.YtplflfnfodghmaaGreatDoor
open Go Go.V Go.Nb
/-- a small draft's number, ahead of the sign -/
def smN : List Int → Int
  | [] => 0
  | [x] => x % 1000
  | x :: y :: _ => (x % 1000) * 1000 + y % 1000
def smZ (b : Bool) (xs : List Int) : Int := if b = true then 0 - smN xs else smN xs
theorem smN_b (xs : List Int) : 0 ≤ smN xs ∧ smN xs ≤ 999999 := by
  rcases xs with _ | ⟨x, _ | ⟨y, r⟩⟩ <;> simp only [smN] <;> omega
theorem smN_take (xs : List Int) (k : Nat) (h : 2 ≤ k ∨ xs.length ≤ k) : smN (xs.take k) = smN xs := by
  by_cases hl : xs.length ≤ k
  · rw [List.take_of_length_le hl]
  · obtain ⟨j, rfl⟩ : ∃ j, k = j + 2 := ⟨k - 2, by omega⟩
    rcases xs with _ | ⟨x, _ | ⟨y, r⟩⟩
    · simp at hl
    · simp at hl
    · simp [smN]
theorem smN_step (xs : List Int) (k : Nat) (h : k < 2) (hl : k < xs.length) : smN (xs.take (k + 1)) = smN (xs.take k) * 1000 + xs.getD k 0 % 1000 := by
  rcases xs with _ | ⟨x, _ | ⟨y, r⟩⟩
  · simp at hl
  · rcases (by simp at hl; omega : k = 0) with rfl
    simp [smN]
  · rcases (by omega : k = 0 ∨ k = 1) with rfl | rfl <;> simp [smN]
theorem dsmall_c (b : Bool) (xs : List Int) (z : Int) : Called Tryz.prog 98 [.agg [.bool b, .ints .u16 xs, .int .u16 z]] (.int .i64 (smZ b xs)) := by
  have hb := smN_b xs
  unfold smZ
  refine called_of_run tbOk 6 ⟨Tryz.func98, rfl, rfl, Nat.le_of_ble_eq_true rfl⟩ ?_
  (conv => whnf)
  refine V.st ?_
  refine lp_any ((0 : Nat)) (fun k => k ≤ 2 ∧ k ≤ xs.length) (fun k => 2 - k) (fun k => [(3, .int .i64 (smN (xs.take k))), (4, .int .i64 k)]) (fun k => []) ?_ ?_ ?_
  · exact V.wk
  · exact ⟨by omega, by omega⟩
  intro k hk
  have hkc : ((k : Int) + 1) = ((k + 1 : Nat) : Int) := by omega
  have hb2 := smN_b (xs.take k)
  (conv => whnf)
  refine V.st ?_
  refine Cnd.split (CondB.mk (fun hq => ?_) (fun hq => ?_))
  · simp only [Bool.and_true, Bool.and_eq_true, decide_eq_true_eq] at hq
    obtain ⟨x, hx, ex⟩ := getxn (xs := xs) (k := k) (by omega)
    have hs := smN_step xs k (by omega) (by omega)
    rw [ex] at hs
    (conv => whnf)
    (try simp only [Int.toNat_natCast, ex, hkc])
    repeat (first | (refine V.s1 ?_; (try simp only [Int.toNat_natCast, ex, hkc])) | ((with_reducible refine recheck_and ?_ ?_); (focus ((conv => whnf); (try simp only [Int.toNat_natCast, ex, hkc]); (repeat (refine V.s1 ?_; (try simp only [Int.toNat_natCast, ex, hkc]))); exact ⟨rfl⟩)); (conv => whnf); (try simp only [Int.toNat_natCast, ex, hkc])))
    rw [← hs]
    exact ⟨k + 1, ⟨by omega, by omega⟩, by omega, V.wk⟩
  · have hs := smN_take xs k (by simp at hq; omega)
    rw [hs]
    (conv => whnf)
    refine V.st ?_
    refine Cnd.split (CondB.mk (fun g => ?_) (fun g => ?_))
    · subst g
      (conv => whnf)
      refine V.st ?_
      exact Fin.of (by simp)
    · subst g
      (conv => whnf)
      refine V.st ?_
      exact Fin.of (by simp)
/-- a fraction's texts -/
def frT (x : Rat) : D := .agg [.str (decZ x.num), .str (dec x.den)]
theorem out_small (n m : Int) (hn : -999999 ≤ n ∧ n ≤ 999999) (hm : 1 ≤ m ∧ m ≤ 999999) : okF (Rat.divInt n m) = true := by
  obtain ⟨d, rfl⟩ : ∃ d : Nat, m = d := ⟨m.toNat, by omega⟩
  have := divInt_le n d (by omega)
  refine okF_small ?_ ?_
  · exact Nat.lt_of_le_of_lt this.1 (by omega)
  · exact Nat.lt_of_le_of_lt this.2 (by omega)
end Go.Proofs.YtplflfnfodghmaaGreatDoor
end
section
/-! the reference's whole numbers: products, order, and as integers -/
set_option linter.unusedSimpArgs false
set_option linter.unusedVariables false
set_option maxHeartbeats 8000000
set_option maxRecDepth 100000
namespace Go.Proofs.YtplflfnfodghmaaGreatDoor
open Go Go.V Go.Nb
theorem times01_c (x y : Int) (hx : Sm 40000000 x) (hy : Sm 40000000 y) : Called Tryz.prog 132 [plD x, plD y] (plD (x * y)) := by
  unfold Sm at hx hy
  have hl := mg_len_mul (B := 10000) (by omega) x.natAbs y.natAbs
  have hp := product_g (mg 10000 x.natAbs) (mg 10000 y.natAbs) (by omega) (by omega) (mg_dg (by omega) _) (fun j => by
    have := dg_getD (B := 10000) (by omega) (mg_dg (B := 10000) (by omega) y.natAbs) j
    omega)
  rw [mg_val (by omega), mg_val (by omega), ← Int.natCast_mul, Int.toNat_natCast] at hp
  have hm := made_mg (!(decide (x < 0) == decide (y < 0))) (x.natAbs * y.natAbs) (by omega)
  have e : (if (!(decide (x < 0) == decide (y < 0))) = true then -((x.natAbs * y.natAbs : Nat) : Int) else ((x.natAbs * y.natAbs : Nat) : Int)) = x * y := by
    rw [Int.natCast_mul]
    by_cases h : x < 0
    · have e1 : (x.natAbs : Int) = -x := by omega
      by_cases h2 : y < 0
      · have e2 : (y.natAbs : Int) = -y := by omega
        rw [e1, e2]; simp [h, h2, Int.neg_mul_neg]
      · have e2 : (y.natAbs : Int) = y := by omega
        rw [e1, e2]; simp [h, h2, Int.neg_mul]
    · have e1 : (x.natAbs : Int) = x := by omega
      by_cases h2 : y < 0
      · have e2 : (y.natAbs : Int) = -y := by omega
        rw [e1, e2]; simp [h, h2, Int.mul_neg]
      · have e2 : (y.natAbs : Int) = y := by omega
        rw [e1, e2]; simp [h, h2]
  rw [e] at hm
  rw [show plD x = .agg [.bool (decide (x < 0)), .ints .i64 (mg 10000 x.natAbs)] from rfl, show plD y = .agg [.bool (decide (y < 0)), .ints .i64 (mg 10000 y.natAbs)] from rfl]
  refine called_of_run tbOk 6 ⟨Tryz.func132, rfl, rfl, Nat.le_of_ble_eq_true rfl⟩ ?_
  (conv => whnf)
  refine V.st ?_
  refine ⟨(.take 0 (.take 1 (.take 2 (.take 3 (.take 4 (.take 5 (.take 6 (.take 7 (.take 8 (.ev (.cons 9 [4, 3, 2, 1, 0] (.ev (.cons 10 [] (.ev (.cons 11 [] (.done) (.nil))) (.nil))) (.nil)))))))))))), ⟨by kernel_rfl, by kernel_rfl, by kernel_rfl⟩, .go ?_⟩
  (conv => whnf)
  refine V.st ?_
  repeat ((try ((with_reducible refine .ext ?_); (conv => whnf))); (with_reducible refine call_intro (r := ?_) ?_ ?_); rotate_left; (focus (first | exact (hp) | exact (hm))); (conv => whnf); refine V.st ?_)
  exact Fin.of rfl
theorem order01_c (x y : Int) (hx : Sm 80000000 x) (hy : Sm 80000000 y) : Called Tryz.prog 135 [plD x, plD y] (.int .i64 (x - y).sign) := by
  have hm := minus_c x y (hx.mono (by omega)) (hy.mono (by omega))
  have hn := mg_nil (B := 10000) (n := (x - y).natAbs) (by omega)
  have hz : Sm 80000001 (x - y) := by rw [Int.sub_eq_add_neg]; exact hx.add hy.neg
  unfold Sm at hz
  rw [show plD (x - y) = .agg [.bool (decide (x - y < 0)), .ints .i64 (mg 10000 (x - y).natAbs)] from rfl] at hm
  generalize x - y = z at *
  generalize mg 10000 z.natAbs = xs at *
  refine called_of_run tbOk 6 ⟨Tryz.func135, rfl, rfl, Nat.le_of_ble_eq_true rfl⟩ ?_
  (conv => whnf)
  refine V.st ?_
  repeat ((try ((with_reducible refine .ext ?_); (conv => whnf))); (with_reducible refine call_intro (r := ?_) ?_ ?_); rotate_left; (focus (first | exact (hm))); (conv => whnf); refine V.st ?_)
  refine Cnd.split (CondB.mk (fun hq => ?_) (fun hq => ?_))
  · rw [decide_eq_true_eq] at hq
    (conv => whnf)
    refine V.st ?_
    exact Fin.of (by rw [Int.sign_eq_neg_one_of_neg hq])
  · rw [decide_eq_false_iff_not] at hq
    (conv => whnf)
    refine V.st ?_
    refine Cnd.split (CondB.mk (fun hq2 => ?_) (fun hq2 => ?_))
    · rw [decide_eq_true_eq] at hq2
      have h0 : z ≠ 0 := fun e => by
        have := hn.2 (by rw [e]; rfl)
        rw [this] at hq2; simp at hq2
      (conv => whnf)
      refine V.st ?_
      exact Fin.of (by rw [Int.sign_eq_one_of_pos (by omega)])
    · rw [decide_eq_false_iff_not] at hq2
      have h0 := hn.1 (List.length_eq_zero_iff.1 (by omega))
      (conv => whnf)
      refine V.st ?_
      exact Fin.of (by rw [show z = 0 by omega]; rfl)
theorem off1 {p : Go.Program} {f : Nat} {ys : List D} {c : Bool} (hc : c = false) : c = true → Called p f ys (.int .i64 0) := fun h => by rw [hc] at h; cases h
theorem sign_lt {a b : Int} : (a - b).sign < 0 ↔ a < b := by
  rcases Int.lt_trichotomy a b with h | h | h
  · rw [Int.sign_eq_neg_one_of_neg (by omega)]; exact ⟨fun _ => h, fun _ => by omega⟩
  · rw [h, Int.sub_self]; exact ⟨fun e => by simp at e, fun e => by omega⟩
  · rw [Int.sign_eq_one_of_pos (by omega)]; exact ⟨fun e => by omega, fun e => by omega⟩
theorem sign_gt {a b : Int} : (a - b).sign > 0 ↔ a > b := by
  rcases Int.lt_trichotomy a b with h | h | h
  · rw [Int.sign_eq_neg_one_of_neg (by omega)]; exact ⟨fun e => by omega, fun e => by omega⟩
  · rw [h, Int.sub_self]; exact ⟨fun e => by simp at e, fun e => by omega⟩
  · rw [Int.sign_eq_one_of_pos (by omega)]; exact ⟨fun _ => h, fun _ => by omega⟩
theorem integral_c (z : Int) (hz : Sm 80000000 z) : Called Tryz.prog 89 [plD z] (.tup [.int .i64 (if -9223372036854775808 ≤ z ∧ z ≤ 9223372036854775807 then z else 0), .int .i64 (if -9223372036854775808 ≤ z ∧ z ≤ 9223372036854775807 then 0 else 6)]) := by
  have i1 := integer_c (-9223372036854775808) (by constructor <;> decide)
  have i2 := integer_c 9223372036854775807 (by constructor <;> decide)
  have y1 : Sm 5 (-9223372036854775808) := Sm.lit (by decide)
  have y2 : Sm 5 9223372036854775807 := Sm.lit (by decide)
  have o1 := order01_c z (-9223372036854775808) hz (y1.mono (by omega))
  have o2 := order01_c z 9223372036854775807 hz (y2.mono (by omega))
  have t1 := sign_lt (a := z) (b := -9223372036854775808)
  have t2 := sign_gt (a := z) (b := 9223372036854775807)
  generalize (z - -9223372036854775808).sign = s1 at *
  generalize (z - 9223372036854775807).sign = s2 at *
  have hdx := mg_dg (B := 10000) (by omega) z.natAbs
  have hvx := mg_val (B := 10000) (by omega) z.natAbs
  unfold Sm at hz
  have hlen : z.natAbs < 10000 ^ 5 → (mg 10000 z.natAbs).length ≤ 5 := fun h => mg_len_le (by omega) h
  rw [show plD z = .agg [.bool (decide (z < 0)), .ints .i64 (mg 10000 z.natAbs)] from rfl] at *
  generalize mg 10000 z.natAbs = xs at *
  refine called_of_run tbOk 6 ⟨Tryz.func89, rfl, rfl, Nat.le_of_ble_eq_true rfl⟩ ?_
  (conv => whnf)
  refine V.st ?_
  refine ⟨(.take 0 (.ev (.cons 1 [0] (.ev (.cons 2 [] (.take 3 (.take 4 (.take 5 (.ev (.cons 6 [5] (.ev (.cons 7 [] (.take 8 (.take 9 (.done))) (.nil))) (.nil)))))) (.nil))) (.nil)))), ⟨by kernel_rfl, by kernel_rfl, by kernel_rfl⟩, .go ?_⟩
  by_cases h1 : s1 < 0
  · have hd : decide (s1 < 0) = true := decide_eq_true h1
    have hn : ¬ (-9223372036854775808 ≤ z ∧ z ≤ 9223372036854775807) := by omega
    rw [if_neg hn, if_neg hn]
    (conv => whnf)
    (try simp only [hd])
    repeat (first | (refine V.s1 ?_; (try simp only [hd])) | ((with_reducible refine recheck_and ?_ ?_); (focus ((conv => whnf); (try simp only [hd]); (repeat (refine V.s1 ?_; (try simp only [hd]))); exact ⟨rfl⟩)); (conv => whnf); (try simp only [hd])) | ((try ((with_reducible refine .ext ?_); (conv => whnf); (try simp only [hd]))); (with_reducible refine call_intro (r := ?_) ?_ ?_); rotate_left; (focus (first | exact (i1) | exact (o1) | exact (i2) | exact (o2) | exact (off1 rfl))); (conv => whnf); (try simp only [hd])))
    refine And.intro (fun _ h => by cases h) ?_
    (conv => whnf)
    (try simp only [hd])
    repeat (first | (refine V.s1 ?_; (try simp only [hd])) | ((with_reducible refine recheck_and ?_ ?_); (focus ((conv => whnf); (try simp only [hd]); (repeat (refine V.s1 ?_; (try simp only [hd]))); exact ⟨rfl⟩)); (conv => whnf); (try simp only [hd])))
    refine Cnd.split (CondB.mk (fun hq => ?_) (fun hq => ?_))
    · (conv => whnf)
      refine V.st ?_
      exact Fin.of rfl
    · simp at hq
  · have hd : decide (s1 < 0) = false := decide_eq_false h1
    (conv => whnf)
    (try simp only [hd])
    repeat (first | (refine V.s1 ?_; (try simp only [hd])) | ((with_reducible refine recheck_and ?_ ?_); (focus ((conv => whnf); (try simp only [hd]); (repeat (refine V.s1 ?_; (try simp only [hd]))); exact ⟨rfl⟩)); (conv => whnf); (try simp only [hd])) | ((try ((with_reducible refine .ext ?_); (conv => whnf); (try simp only [hd]))); (with_reducible refine call_intro (r := ?_) ?_ ?_); rotate_left; (focus (first | exact (i1) | exact (o1) | exact (i2) | exact (o2))); (conv => whnf); (try simp only [hd])))
    refine Cnd.split (CondB.mk (fun hq => ?_) (fun hq => ?_))
    · simp only [Bool.false_or, decide_eq_true_eq] at hq
      have hn : ¬ (-9223372036854775808 ≤ z ∧ z ≤ 9223372036854775807) := by omega
      rw [if_neg hn, if_neg hn]
      (conv => whnf)
      refine V.st ?_
      exact Fin.of rfl
    · simp only [Bool.false_or, decide_eq_false_iff_not] at hq
      have hn : -9223372036854775808 ≤ z ∧ z ≤ 9223372036854775807 := by omega
      rw [if_pos hn, if_pos hn]
      have hl5 := hlen (by omega)
      (conv => whnf)
      refine V.st ?_
      refine lp_any (xs.length : Nat) (fun k => k ≤ xs.length) (fun k => k) (fun k => [(5, .int .i64 ((k : Int) - 1)), (4, .int .i64 (0 - val 10000 (xs.drop k)))]) (fun _ => []) ?_ ?_ ?_
      · rw [List.drop_length]
        exact V.wk
      · exact Nat.le_refl _
      intro k hk
      (conv => whnf)
      refine V.st ?_
      refine Cnd.split (CondB.mk (fun hq2 => ?_) (fun hq2 => ?_))
      · rw [decide_eq_true_eq] at hq2
        obtain ⟨j, rfl⟩ : ∃ j, k = j + 1 := ⟨k - 1, by omega⟩
        have hd2 := val_drop (B := 10000) (l := xs) (k := j) (by omega)
        have bx := dg_getD (by omega) hdx j
        have h0 := val_nonneg (dg_drop hdx (j + 1))
        have he := (val_ends (B := 10000) (by omega) hdx j).1
        have hp1 : (1 : Int) ≤ ((10000 : Nat) : Int) ^ j := by have := pow_pos' (B := 10000) (by omega) j; omega
        have hle : val 10000 (xs.drop j) ≤ val 10000 xs := by
          have := Int.mul_le_mul_of_nonneg_left hp1 (val_nonneg (dg_drop hdx j))
          omega
        have e2 : (((j + 1 : Nat) : Int) - 1) = (j : Int) := by omega
        generalize hx0 : xs.getD j 0 = x at *
        have e3 : (0 - val 10000 (xs.drop (j + 1))) * 10000 - x = 0 - val 10000 (xs.drop j) := by omega
        (conv => whnf)
        (try simp only [e2, Int.toNat_natCast, hx0, e3])
        repeat (first | (refine V.s1 ?_; (try simp only [e2, Int.toNat_natCast, hx0, e3])) | ((with_reducible refine recheck_and ?_ ?_); (focus ((conv => whnf); (try simp only [e2, Int.toNat_natCast, hx0, e3]); (repeat (refine V.s1 ?_; (try simp only [e2, Int.toNat_natCast, hx0, e3]))); exact ⟨rfl⟩)); (conv => whnf); (try simp only [e2, Int.toNat_natCast, hx0, e3])))
        exact ⟨j, by omega, by omega, V.wk⟩
      · rw [decide_eq_false_iff_not] at hq2
        obtain rfl : k = 0 := by omega
        rw [List.drop_zero, hvx]
        (conv => whnf)
        refine V.st ?_
        refine Cnd.split (CondB.mk (fun hz0 => ?_) (fun hz0 => ?_))
        · rw [decide_eq_true_eq] at hz0
          (conv => whnf)
          refine V.st ?_
          exact Fin.of (by rw [show 0 - (z.natAbs : Int) = z by omega])
        · rw [decide_eq_false_iff_not] at hz0
          (conv => whnf)
          refine V.st ?_
          exact Fin.of (by rw [show 0 - (0 - (z.natAbs : Int)) = z by omega])
end Go.Proofs.YtplflfnfodghmaaGreatDoor
end
section
/-! the reference's fractions -/
set_option linter.unusedSimpArgs false
set_option linter.unusedVariables false
set_option maxHeartbeats 8000000
set_option maxRecDepth 100000
namespace Go.Proofs.YtplflfnfodghmaaGreatDoor
open Go Go.V Go.Nb
/-- how many digits the parts of a fraction have at most, in the reference -/
def Q4 (k : Nat) (q : Rat) : Prop := Sm k q.num ∧ Sm k (q.den : Int)
theorem Q4.mono {k l : Nat} {q : Rat} (h : Q4 k q) (hl : k ≤ l) : Q4 l q := ⟨h.1.mono hl, h.2.mono hl⟩
theorem Q4.neg {k : Nat} {q : Rat} (h : Q4 k q) : Q4 k (-q) := ⟨by rw [Rat.neg_num]; exact h.1.neg, by rw [Rat.neg_den]; exact h.2⟩
theorem Q4.of {k : Nat} {n d : Int} (hn : Sm k n) (hd : Sm k d) (hd0 : d ≠ 0) : Q4 k (Rat.divInt n d) := by
  have h1 := low_num n d hd0
  have h2 := low_den n d hd0
  have h3 := natAbs_ediv_le (if d < 0 then -n else n) (Int.gcd (if d < 0 then -n else n) (if d < 0 then -d else d))
  have h4 := natAbs_ediv_le (if d < 0 then -d else d) (Int.gcd (if d < 0 then -n else n) (if d < 0 then -d else d))
  rw [h1] at h3
  rw [h2] at h4
  have e1 : (if d < 0 then -n else n).natAbs = n.natAbs := by split <;> simp
  have e2 : (if d < 0 then -d else d).natAbs = d.natAbs := by split <;> simp
  exact ⟨hn.le (by omega), hd.le (by omega)⟩
theorem plN (n : Nat) : plD (n : Int) = .agg [.bool false, .ints .i64 (mg 10000 n)] := by
  unfold plD
  rw [decide_eq_false (by omega), Int.natAbs_natCast]
theorem mul_divInt (x y : Rat) : x * y = Rat.divInt (x.num * y.num) ((x.den : Int) * (y.den : Int)) := by
  conv => lhs; rw [← Rat.num_divInt_den x, ← Rat.num_divInt_den y]
  rw [Rat.divInt_mul_divInt]
theorem den_ne (x : Rat) : (x.den : Int) ≠ 0 := by have := x.den_pos; omega
theorem times02_c (x y : Rat) (hx : Q4 40000000 x) (hy : Q4 40000000 y) : Called Tryz.prog 74 [raD x, raD y] (raD (x * y)) := by
  have h1 := times01_c x.num y.num hx.1 hy.1
  have h2 := times01_c x.den y.den hx.2 hy.2
  have h3 := lowest_c (x.num * y.num) ((x.den : Int) * (y.den : Int)) (hx.1.mul hy.1) (hx.2.mul hy.2) (Int.mul_ne_zero (den_ne x) (den_ne y))
  rw [← mul_divInt] at h3
  rw [plN, plN] at h2
  refine called_of_run tbOk 6 ⟨Tryz.func74, rfl, rfl, Nat.le_of_ble_eq_true rfl⟩ ?_
  (conv => whnf)
  refine V.st ?_
  refine ⟨(.take 0 (.take 1 (.take 2 (.take 3 (.take 5 (.take 6 (.take 7 (.take 8 (.ev (.cons 4 [8, 7, 6, 5] (.ev (.cons 9 [] (.ev (.cons 10 [] (.ev (.cons 11 [] (.done) (.nil))) (.nil))) (.nil))) (.nil))))))))))), ⟨by kernel_rfl, by kernel_rfl, by kernel_rfl⟩, .go ?_⟩
  (conv => whnf)
  refine V.st ?_
  repeat ((try ((with_reducible refine .ext ?_); (conv => whnf))); (with_reducible refine call_intro (r := ?_) ?_ ?_); rotate_left; (focus (first | exact (h1) | exact (h2) | exact (h3))); (conv => whnf); refine V.st ?_)
  exact Fin.of rfl
theorem order02_c (x y : Rat) (hx : Q4 40000000 x) (hy : Q4 40000000 y) : Called Tryz.prog 106 [raD x, raD y] (.int .i64 (ordQ x y)) := by
  have h1 := times01_c x.num y.den hx.1 hy.2
  have h2 := times01_c y.num x.den hy.1 hx.2
  have h3 := order01_c (x.num * y.den) (y.num * x.den) (hx.1.mul hy.2) (hy.1.mul hx.2)
  rw [Int.sub_eq_add_neg, order_parts] at h3
  rw [plN] at h1 h2
  refine called_of_run tbOk 6 ⟨Tryz.func106, rfl, rfl, Nat.le_of_ble_eq_true rfl⟩ ?_
  (conv => whnf)
  refine V.st ?_
  refine ⟨(.take 0 (.take 1 (.take 2 (.take 3 (.take 5 (.take 6 (.take 7 (.take 8 (.ev (.cons 4 [8, 7, 6, 5] (.ev (.cons 9 [] (.ev (.cons 10 [] (.take 11 (.done)) (.nil))) (.nil))) (.nil))))))))))), ⟨by kernel_rfl, by kernel_rfl, by kernel_rfl⟩, .go ?_⟩
  (conv => whnf)
  refine V.st ?_
  repeat ((try ((with_reducible refine .ext ?_); (conv => whnf))); (with_reducible refine call_intro (r := ?_) ?_ ?_); rotate_left; (focus (first | exact (h1) | exact (h2) | exact (h3))); (conv => whnf); refine V.st ?_)
  exact Fin.of rfl
theorem down_c (x : Rat) (hx : Q4 80000000 x) : Called Tryz.prog 90 [raD x] (plD (x.num / (x.den : Int))) := by
  have h1 := partsP_c x.num x.den hx.1 hx.2 (den_ne x)
  rw [plN] at h1
  refine called_of_run tbOk 6 ⟨Tryz.func90, rfl, rfl, Nat.le_of_ble_eq_true rfl⟩ ?_
  (conv => whnf)
  refine V.st ?_
  repeat ((try ((with_reducible refine .ext ?_); (conv => whnf))); (with_reducible refine call_intro (r := ?_) ?_ ?_); rotate_left; (focus (first | exact (h1))); (conv => whnf); refine V.st ?_)
  exact Fin.of rfl
theorem turn02_c (x : Rat) (hx : Q4 80000000 x) : Called Tryz.prog 150 [raD x] (raD (-x)) := by
  have h1 := turn_c x.num (by have := hx.1; unfold Sm at this; omega)
  have e : raD (-x) = .agg [.bool (decide (-x.num < 0)), .ints .i64 (mg 10000 (-x.num).natAbs), .bool false, .ints .i64 (mg 10000 x.den)] := by unfold raD; rw [Rat.neg_num, Rat.neg_den]
  rw [e]
  refine called_of_run tbOk 6 ⟨Tryz.func150, rfl, rfl, Nat.le_of_ble_eq_true rfl⟩ ?_
  (conv => whnf)
  refine V.st ?_
  refine ⟨(.take 0 (.take 1 (.take 3 (.take 4 (.ev (.cons 2 [4, 3] (.take 5 (.ev (.cons 6 [] (.done) (.nil)))) (.nil))))))), ⟨by kernel_rfl, by kernel_rfl, by kernel_rfl⟩, .go ?_⟩
  (conv => whnf)
  refine V.st ?_
  repeat ((try ((with_reducible refine .ext ?_); (conv => whnf))); (with_reducible refine call_intro (r := ?_) ?_ ?_); rotate_left; (focus (first | exact (h1))); (conv => whnf); refine V.st ?_)
  exact Fin.of rfl
theorem value_c (n : Int) (hn : InR .i64 n) : Called Tryz.prog 73 [.int .i64 n] (raD (Rat.divInt n 1000000000000)) := by
  have h := quick_c n 1000000000000 hn (by constructor <;> decide) (by decide)
  refine called_of_run tbOk 6 ⟨Tryz.func73, rfl, rfl, Nat.le_of_ble_eq_true rfl⟩ ?_
  (conv => whnf)
  refine V.st ?_
  repeat ((try ((with_reducible refine .ext ?_); (conv => whnf))); (with_reducible refine call_intro (r := ?_) ?_ ?_); rotate_left; (focus (first | exact (h))); (conv => whnf); refine V.st ?_)
  exact Fin.of rfl
theorem Q4.mul {k l : Nat} {x y : Rat} (h : Q4 k x) (g : Q4 l y) : Q4 (k + l) (x * y) := by
  rw [mul_divInt]
  exact Q4.of (h.1.mul g.1) (h.2.mul g.2) (Int.mul_ne_zero (den_ne x) (den_ne y))
theorem add_divInt' (x y : Rat) : x + y = Rat.divInt (x.num * y.den + y.num * x.den) ((x.den : Int) * (y.den : Int)) := by
  conv => lhs; rw [← Rat.num_divInt_den x, ← Rat.num_divInt_den y]
  rw [Rat.divInt_add_divInt _ _ (den_ne x) (den_ne y)]
theorem over_eq (x y : Rat) (hy : y ≠ 0) : x / y = Rat.divInt (x.num * y.den) ((x.den : Int) * y.num) := by
  rw [Rat.div_def]
  conv => lhs; rw [← Rat.num_divInt_den x, ← Rat.num_divInt_den y, Rat.inv_divInt, Rat.divInt_mul_divInt]
end Go.Proofs.YtplflfnfodghmaaGreatDoor
end
section
/-! the tightest band -/
set_option linter.unusedSimpArgs false
set_option linter.unusedVariables false
set_option maxHeartbeats 8000000
set_option maxRecDepth 100000
namespace Go.Proofs.YtplflfnfodghmaaGreatDoor
open Go Go.V Go.Nb
theorem right03_c (lo hi : Int) : Called Tryz.prog 72 [bA lo hi] (.bool (vb lo hi)) := by
  refine called_of_run tbOk 6 ⟨Tryz.func72, rfl, rfl, Nat.le_of_ble_eq_true rfl⟩ ?_
  (conv => whnf)
  refine V.st ?_
  exact Fin.of rfl
theorem off2 {p : Go.Program} {f : Nat} {ys : List D} {c : Bool} (hc : c = false) : c = true → Called p f ys (.bool false) := fun h => by rw [hc] at h; cases h
/-- a fraction, rounded down -/
def fl (q : Rat) : Int := q.num / (q.den : Int)
/-- a whole band -/
def oneE : Rat := Rat.divInt 1000000000000 1
/-- the tightest band from x to y -/
def tightR (x y : Rat) : Int × Int × Int := mk (fl (x * oneE)) (0 - fl (-(y * oneE)))
theorem sm_fl {k : Nat} {q : Rat} (h : Q4 k q) : Sm k (fl q) := h.1.le (by
  unfold fl
  exact natAbs_ediv_le _ _)
theorem mk_no {a b : Int} (h : ¬ (-1000000000000000000 ≤ a ∧ a ≤ b ∧ b ≤ 1000000000000000000)) : mk a b = (0, 0, 6) := by
  unfold mk
  rw [if_neg (fun e => h (vb_iff.1 e))]
theorem tight_c (x y : Rat) (hx : Q4 1000 x) (hy : Q4 1000 y) : Called Tryz.prog 103 [raD x, raD y] (bD (tightR x y)) := by
  have q1 := quick_c 1000000000000 1 (by constructor <;> decide) (by constructor <;> decide) (by decide)
  have y1 : Sm 5 1000000000000 := Sm.lit (by decide)
  have y2 : Sm 5 1 := Sm.lit (by decide)
  have hE : Q4 5 oneE := Q4.of y1 y2 (by decide)
  have t1 := times02_c x oneE (hx.mono (by omega)) (hE.mono (by omega))
  have t2 := times02_c y oneE (hy.mono (by omega)) (hE.mono (by omega))
  have z1 := hx.mul hE
  have z2 := hy.mul hE
  have d1 := down_c (x * oneE) (z1.mono (by omega))
  have n2 := turn02_c (y * oneE) (z2.mono (by omega))
  have d2 := down_c (-(y * oneE)) (z2.neg.mono (by omega))
  have i1 := integral_c (fl (x * oneE)) ((sm_fl z1).mono (by omega))
  have i2 := integral_c (fl (-(y * oneE))) ((sm_fl z2.neg).mono (by omega))
  rw [show Rat.divInt 1000000000000 1 = oneE from rfl] at q1
  rw [show (x * oneE).num / ((x * oneE).den : Int) = fl (x * oneE) from rfl] at d1
  rw [show (-(y * oneE)).num / ((-(y * oneE)).den : Int) = fl (-(y * oneE)) from rfl] at d2
  unfold tightR
  generalize fl (x * oneE) = a at *
  generalize fl (-(y * oneE)) = b at *
  have r := right03_c a (0 - b)
  by_cases h1 : -9223372036854775808 ≤ a ∧ a ≤ 9223372036854775807
  · rw [if_pos h1, if_pos h1] at i1
    by_cases h2 : -9223372036854775808 ≤ b ∧ b ≤ 9223372036854775807
    · rw [if_pos h2, if_pos h2] at i2
      by_cases h3 : b = -9223372036854775808
      · rw [mk_no (by omega)]
        subst h3
        refine called_of_run tbOk 6 ⟨Tryz.func103, rfl, rfl, Nat.le_of_ble_eq_true rfl⟩ ?_
        (conv => whnf)
        refine V.st ?_
        repeat ((try ((with_reducible refine .ext ?_); (conv => whnf))); (with_reducible refine call_intro (r := ?_) ?_ ?_); rotate_left; (focus (first | exact (q1) | exact (t1) | exact (d1) | exact (i1) | exact (t2) | exact (n2) | exact (d2) | exact (i2))); (conv => whnf); refine V.st ?_)
        refine .inl ⟨fun h => by simp at h, ?_⟩
        (conv => whnf)
        refine V.st ?_
        refine ⟨.bool false, fun h => by simp at h, ?_⟩
        (conv => whnf)
        refine V.st ?_
        exact Fin.of rfl
      · unfold mk
        generalize hv : vb a (0 - b) = v at *
        have h3d : decide (b = -9223372036854775808) = false := decide_eq_false h3
        refine called_of_run tbOk 6 ⟨Tryz.func103, rfl, rfl, Nat.le_of_ble_eq_true rfl⟩ ?_
        (conv => whnf)
        (conv => whnf)
        (try simp only [h3d])
        repeat (first | (refine V.s1 ?_; (try simp only [h3d])) | ((with_reducible refine recheck_and ?_ ?_); (focus ((conv => whnf); (try simp only [h3d]); (repeat (refine V.s1 ?_; (try simp only [h3d]))); exact ⟨rfl⟩)); (conv => whnf); (try simp only [h3d])) | ((try ((with_reducible refine .ext ?_); (conv => whnf); (try simp only [h3d]))); (with_reducible refine call_intro (r := ?_) ?_ ?_); rotate_left; (focus (first | exact (q1) | exact (t1) | exact (d1) | exact (i1) | exact (t2) | exact (n2) | exact (d2) | exact (i2) | exact (r))); (conv => whnf); (try simp only [h3d])))
        refine Cnd.split (CondB.mk (fun hq => ?_) (fun hq => ?_))
        · simp at hq
          subst hq
          rw [if_neg (by simp)]
          (conv => whnf)
          (try simp only [h3d])
          repeat (first | (refine V.s1 ?_; (try simp only [h3d])) | ((with_reducible refine recheck_and ?_ ?_); (focus ((conv => whnf); (try simp only [h3d]); (repeat (refine V.s1 ?_; (try simp only [h3d]))); exact ⟨rfl⟩)); (conv => whnf); (try simp only [h3d])))
          exact Fin.of rfl
        · simp at hq
          subst hq
          rw [if_pos rfl]
          (conv => whnf)
          (try simp only [h3d])
          repeat (first | (refine V.s1 ?_; (try simp only [h3d])) | ((with_reducible refine recheck_and ?_ ?_); (focus ((conv => whnf); (try simp only [h3d]); (repeat (refine V.s1 ?_; (try simp only [h3d]))); exact ⟨rfl⟩)); (conv => whnf); (try simp only [h3d])))
          exact Fin.of rfl
    · rw [if_neg h2, if_neg h2] at i2
      rw [mk_no (by omega)]
      refine called_of_run tbOk 6 ⟨Tryz.func103, rfl, rfl, Nat.le_of_ble_eq_true rfl⟩ ?_
      (conv => whnf)
      refine V.st ?_
      repeat ((try ((with_reducible refine .ext ?_); (conv => whnf))); (with_reducible refine call_intro (r := ?_) ?_ ?_); rotate_left; (focus (first | exact (q1) | exact (t1) | exact (d1) | exact (i1) | exact (t2) | exact (n2) | exact (d2) | exact (i2))); (conv => whnf); refine V.st ?_)
      refine ⟨.bool false, fun h => by simp at h, ?_⟩
      (conv => whnf)
      refine V.st ?_
      exact Fin.of rfl
  · rw [if_neg h1, if_neg h1] at i1
    rw [mk_no (by omega)]
    generalize (if -9223372036854775808 ≤ b ∧ b ≤ 9223372036854775807 then b else 0) = b1 at *
    generalize (if -9223372036854775808 ≤ b ∧ b ≤ 9223372036854775807 then (0 : Int) else 6) = b2 at *
    refine called_of_run tbOk 6 ⟨Tryz.func103, rfl, rfl, Nat.le_of_ble_eq_true rfl⟩ ?_
    (conv => whnf)
    refine V.st ?_
    repeat ((try ((with_reducible refine .ext ?_); (conv => whnf))); (with_reducible refine call_intro (r := ?_) ?_ ?_); rotate_left; (focus (first | exact (q1) | exact (t1) | exact (d1) | exact (i1) | exact (t2) | exact (n2) | exact (d2) | exact (i2))); (conv => whnf); refine V.st ?_)
    refine .inl ⟨fun h => by simp at h, ?_⟩
    (conv => whnf)
    refine V.st ?_
    refine ⟨.bool false, fun h => by simp at h, ?_⟩
    (conv => whnf)
    refine V.st ?_
    refine Cnd.split (CondB.mk (fun hq => ?_) (fun hq => ?_))
    · (conv => whnf)
      refine V.st ?_
      exact Fin.of rfl
    · simp at hq
end Go.Proofs.YtplflfnfodghmaaGreatDoor
end
section
/-! the tightest band around some numbers -/
set_option linter.unusedSimpArgs false
set_option linter.unusedVariables false
set_option maxHeartbeats 8000000
set_option maxRecDepth 100000
namespace Go.Proofs.YtplflfnfodghmaaGreatDoor
open Go Go.V Go.Nb
/-- a fraction's cells -/
def raL (q : Rat) : List D := [.bool (decide (q.num < 0)), .ints .i64 (mg 10000 q.num.natAbs), .bool false, .ints .i64 (mg 10000 q.den)]
/-- the lesser and the greater of two, the first one kept -/
def lsr (m x : Rat) : Rat := if x < m then x else m
def gtr (m x : Rat) : Rat := if m < x then x else m
theorem ordQ_lt {x y : Rat} : ordQ x y < 0 ↔ x < y := by
  unfold ordQ
  by_cases a : x < y
  · rw [if_pos a]; exact ⟨fun _ => a, fun _ => by omega⟩
  · rw [if_neg a]
    by_cases b : x = y
    · rw [if_pos b]; exact ⟨fun h => by omega, fun h => absurd h a⟩
    · rw [if_neg b]; exact ⟨fun h => by omega, fun h => absurd h a⟩
theorem ordQ_gt {x y : Rat} : ordQ x y > 0 ↔ y < x := by
  unfold ordQ
  by_cases a : x < y
  · rw [if_pos a]; exact ⟨fun h => by omega, fun h => absurd h (Rat.not_lt.2 (Rat.le_of_lt a))⟩
  · rw [if_neg a]
    by_cases b : x = y
    · rw [if_pos b, b]; exact ⟨fun h => by omega, fun h => absurd h (Rat.lt_irrefl)⟩
    · rw [if_neg b]; exact ⟨fun _ => Rat.lt_of_le_of_ne (Rat.not_lt.1 a) (Ne.symm b), fun _ => by omega⟩
theorem take_foldlR {op : Rat → Rat → Rat} {x : Rat} {xs : List Rat} {k : Nat} (h : k < xs.length) : (xs.take (k + 1)).foldl op x = op ((xs.take k).foldl op x) (xs.getD k 0) := by
  rw [List.take_add_one, List.foldl_append, List.getD_eq_getElem?_getD, List.getElem?_eq_getElem h]
  rfl
theorem fold_q4 {op : Rat → Rat → Rat} (hop : ∀ a b, op a b = a ∨ op a b = b) {K : Nat} : ∀ {xs : List Rat} {x : Rat}, Q4 K x → (∀ q ∈ xs, Q4 K q) → Q4 K (xs.foldl op x)
  | [], x, h, _ => h
  | y :: ys, x, h, g => by
    rw [List.foldl_cons]
    refine fold_q4 hop ?_ (fun q hq => g q (List.mem_cons_of_mem _ hq))
    rcases hop x y with e | e
    · rw [e]; exact h
    · rw [e]; exact g y List.mem_cons_self
theorem lsr_or (a b : Rat) : lsr a b = a ∨ lsr a b = b := by unfold lsr; split <;> simp
theorem gtr_or (a b : Rat) : gtr a b = a ∨ gtr a b = b := by unfold gtr; split <;> simp
theorem between_c (x : Rat) (xs : List Rat) (hn : xs.length < 100) (hx : Q4 1000 x) (hxs : ∀ q ∈ xs, Q4 1000 q) (f : Nat → List D) (hf0 : f 0 = raL x) (hf : ∀ j, j < xs.length → f (j + 1) = raL (xs.getD j 0)) :
    Called Tryz.prog 76 [.slf 4 (xs.length + 1) f] (bD (tightR (xs.foldl lsr x) (xs.foldl gtr x))) := by
  have ht := tight_c (xs.foldl lsr x) (xs.foldl gtr x) (fold_q4 lsr_or hx hxs) (fold_q4 gtr_or hx hxs)
  unfold raL at hf0 hf
  obtain ⟨n, hnn⟩ : ∃ n, n = xs.length + 1 := ⟨_, rfl⟩
  rw [← hnn]
  refine called_of_run tbOk 6 ⟨Tryz.func76, rfl, rfl, Nat.le_of_ble_eq_true rfl⟩ ?_
  (conv => whnf)
  refine V.st ?_
  have hn0 : (0 : Int) < (n : Int) := by omega
  refine ⟨(.take 0 (.take 1 (.take 2 (.take 3 (.take 4 (.take 5 (.ev (.cons 6 [5, 4, 3, 2, 1, 0] (.ev (.cons 7 [5, 4, 3, 2, 1, 0] (.ev (.cons 8 [5, 4, 3] (.ev (.cons 9 [] (.done) (.nil))) (.nil))) (.nil))) (.cons 7 [5, 4, 3, 2, 1, 0] (.ev (.cons 6 [5, 4, 3, 2, 1, 0] (.ev (.cons 8 [5, 4, 3] (.ev (.cons 9 [] (.done) (.nil))) (.nil))) (.nil))) (.nil)))))))))), ⟨by kernel_rfl, by kernel_rfl, by kernel_rfl⟩, ?_⟩
  refine drw_meet [(4, .box 4 0), (5, .box 5 0)] [(4, .box [.bool (decide (x.num < 0)), .ints .i64 (mg 10000 x.num.natAbs), .bool false, .ints .i64 (mg 10000 x.den)]), (5, .box [.bool (decide (x.num < 0)), .ints .i64 (mg 10000 x.num.natAbs), .bool false, .ints .i64 (mg 10000 x.den)])] ?_ ?_
  · have hf1 : f (Int.toNat 0) = [.bool (decide (x.num < 0)), .ints .i64 (mg 10000 x.num.natAbs), .bool false, .ints .i64 (mg 10000 x.den)] := hf0
    (conv => whnf); (try simp only [Nat.zero_add, hf1])
    repeat' (first | exact V.wk | (refine V.s1 ?_; (try simp only [Nat.zero_add, hf1])) | ((with_reducible refine recheck_and ?_ ?_); (focus ((conv => whnf); (try simp only [Nat.zero_add, hf1]); (repeat (refine V.s1 ?_; (try simp only [Nat.zero_add, hf1]))); exact ⟨rfl⟩)); (conv => whnf); (try simp only [Nat.zero_add, hf1])) | ((try ((with_reducible refine .ext ?_); (conv => whnf); (try simp only [Nat.zero_add, hf1]))); (with_reducible refine call_intro (r := ?_) ?_ ?_); rotate_left; (focus (first | fail)); (conv => whnf); (try simp only [Nat.zero_add, hf1])) | (refine And.intro ?_ ?_ <;> (conv => whnf); (try simp only [Nat.zero_add, hf1])))
    · exact fun _ => ⟨by omega, by omega⟩
    simp only [hf1]
    (conv => whnf)
    refine And.intro (fun _ => ⟨by omega, by omega⟩) ?_
    (conv => whnf); (try simp only [Nat.zero_add, hf1])
    repeat' (first | exact V.wk | (refine V.s1 ?_; (try simp only [Nat.zero_add, hf1])) | ((with_reducible refine recheck_and ?_ ?_); (focus ((conv => whnf); (try simp only [Nat.zero_add, hf1]); (repeat (refine V.s1 ?_; (try simp only [Nat.zero_add, hf1]))); exact ⟨rfl⟩)); (conv => whnf); (try simp only [Nat.zero_add, hf1])) | ((try ((with_reducible refine .ext ?_); (conv => whnf); (try simp only [Nat.zero_add, hf1]))); (with_reducible refine call_intro (r := ?_) ?_ ?_); rotate_left; (focus (first | fail)); (conv => whnf); (try simp only [Nat.zero_add, hf1])) | (refine And.intro ?_ ?_ <;> (conv => whnf); (try simp only [Nat.zero_add, hf1])))
    all_goals first | exact fun _ => ⟨by omega, by omega⟩ | exact ⟨rfl⟩ | skip
  (conv => whnf)
  refine V.st ?_
  refine lp_any (0 : Nat) (fun k => k ≤ xs.length) (fun k => xs.length - k) (fun k => [(6, .int .i64 ((k + 1 : Nat) : Int))]) (fun k => [(4, .box [.bool (decide (((xs.take k).foldl lsr x).num < 0)), .ints .i64 (mg 10000 ((xs.take k).foldl lsr x).num.natAbs), .bool false, .ints .i64 (mg 10000 ((xs.take k).foldl lsr x).den)]), (5, .box [.bool (decide (((xs.take k).foldl gtr x).num < 0)), .ints .i64 (mg 10000 ((xs.take k).foldl gtr x).num.natAbs), .bool false, .ints .i64 (mg 10000 ((xs.take k).foldl gtr x).den)])]) ?_ ?_ ?_
  · exact V.wk
  · exact Nat.zero_le _
  intro k hk
  have hkc : (((k + 1 : Nat) : Int) + 1) = ((k + 1 + 1 : Nat) : Int) := by omega
  have hi : ((k + 1 : Nat) : Int).toNat = k + 1 := by omega
  have hlo : Q4 1000 ((xs.take k).foldl lsr x) := fold_q4 lsr_or hx (fun q hq => hxs q (List.mem_of_mem_take hq))
  have hhi : Q4 1000 ((xs.take k).foldl gtr x) := fold_q4 gtr_or hx (fun q hq => hxs q (List.mem_of_mem_take hq))
  (conv => whnf)
  (try simp only [hkc, hi])
  repeat (first | (refine V.s1 ?_; (try simp only [hkc, hi])) | ((with_reducible refine recheck_and ?_ ?_); (focus ((conv => whnf); (try simp only [hkc, hi]); (repeat (refine V.s1 ?_; (try simp only [hkc, hi]))); exact ⟨rfl⟩)); (conv => whnf); (try simp only [hkc, hi])))
  refine Cnd.split (CondB.mk (fun hq => ?_) (fun hq => ?_))
  · rw [decide_eq_true_eq] at hq
    have hkl : k < xs.length := by omega
    have hl1 := take_foldlR (op := lsr) (x := x) hkl
    have hg1 := take_foldlR (op := gtr) (x := x) hkl
    have hfk := hf k hkl
    have hy : Q4 1000 (xs.getD k 0) := hxs _ (by rw [List.getD_eq_getElem?_getD, List.getElem?_eq_getElem hkl]; exact List.getElem_mem hkl)
    have o1 := order02_c (xs.getD k 0) ((xs.take k).foldl lsr x) (hy.mono (by omega)) (hlo.mono (by omega))
    have o2 := order02_c (xs.getD k 0) ((xs.take k).foldl gtr x) (hy.mono (by omega)) (hhi.mono (by omega))
    generalize xs.getD k 0 = y at *
    generalize (xs.take k).foldl lsr x = lo at *
    generalize (xs.take k).foldl gtr x = hi' at *
    have c1 := ordQ_lt (x := y) (y := lo)
    have c2 := ordQ_gt (x := y) (y := hi')
    (conv => whnf)
    (try simp only [hkc, hi])
    repeat (first | (refine V.s1 ?_; (try simp only [hkc, hi])) | ((with_reducible refine recheck_and ?_ ?_); (focus ((conv => whnf); (try simp only [hkc, hi]); (repeat (refine V.s1 ?_; (try simp only [hkc, hi]))); exact ⟨rfl⟩)); (conv => whnf); (try simp only [hkc, hi])))
    refine ⟨(.take 0 (.take 1 (.take 2 (.take 3 (.take 4 (.ev (.cons 5 [] (.take 6 (.done)) (.nil)))))))), ⟨by kernel_rfl, by kernel_rfl, by kernel_rfl⟩, .go ?_⟩
    (conv => whnf)
    (try simp only [hkc, hi, hfk])
    repeat (first | (refine V.s1 ?_; (try simp only [hkc, hi, hfk])) | ((with_reducible refine recheck_and ?_ ?_); (focus ((conv => whnf); (try simp only [hkc, hi, hfk]); (repeat (refine V.s1 ?_; (try simp only [hkc, hi, hfk]))); exact ⟨rfl⟩)); (conv => whnf); (try simp only [hkc, hi, hfk])))
    (conv => whnf)
    refine And.intro (fun _ => ⟨by omega, by omega⟩) ?_
    (conv => whnf)
    (try simp only [hkc, hi, hfk])
    repeat (first | (refine V.s1 ?_; (try simp only [hkc, hi, hfk])) | ((with_reducible refine recheck_and ?_ ?_); (focus ((conv => whnf); (try simp only [hkc, hi, hfk]); (repeat (refine V.s1 ?_; (try simp only [hkc, hi, hfk]))); exact ⟨rfl⟩)); (conv => whnf); (try simp only [hkc, hi, hfk])) | ((try ((with_reducible refine .ext ?_); (conv => whnf); (try simp only [hkc, hi, hfk]))); (with_reducible refine call_intro (r := ?_) ?_ ?_); rotate_left; (focus (first | exact (o1))); (conv => whnf); (try simp only [hkc, hi, hfk])))
    refine Cnd.split (CondB.mk (fun h1 => ?_) (fun h1 => ?_))
    · rw [decide_eq_true_eq] at h1
      have g1 : lsr lo y = y := by unfold lsr; rw [if_pos (c1.1 h1)]
      rw [g1] at hl1
      (conv => whnf)
      (try simp only [hkc, hi, hfk])
      repeat (first | (refine V.s1 ?_; (try simp only [hkc, hi, hfk])) | ((with_reducible refine recheck_and ?_ ?_); (focus ((conv => whnf); (try simp only [hkc, hi, hfk]); (repeat (refine V.s1 ?_; (try simp only [hkc, hi, hfk]))); exact ⟨rfl⟩)); (conv => whnf); (try simp only [hkc, hi, hfk])))
      (conv => whnf)
      refine And.intro (fun _ => ⟨by omega, by omega⟩) ?_
      (conv => whnf)
      (try simp only [hkc, hi, hfk])
      repeat (first | (refine V.s1 ?_; (try simp only [hkc, hi, hfk])) | ((with_reducible refine recheck_and ?_ ?_); (focus ((conv => whnf); (try simp only [hkc, hi, hfk]); (repeat (refine V.s1 ?_; (try simp only [hkc, hi, hfk]))); exact ⟨rfl⟩)); (conv => whnf); (try simp only [hkc, hi, hfk])))
      refine ⟨(.take 0 (.take 1 (.take 2 (.take 3 (.take 4 (.ev (.cons 5 [] (.take 6 (.done)) (.nil)))))))), ⟨by kernel_rfl, by kernel_rfl, by kernel_rfl⟩, .go ?_⟩
      (conv => whnf)
      (try simp only [hkc, hi, hfk])
      repeat (first | (refine V.s1 ?_; (try simp only [hkc, hi, hfk])) | ((with_reducible refine recheck_and ?_ ?_); (focus ((conv => whnf); (try simp only [hkc, hi, hfk]); (repeat (refine V.s1 ?_; (try simp only [hkc, hi, hfk]))); exact ⟨rfl⟩)); (conv => whnf); (try simp only [hkc, hi, hfk])))
      (conv => whnf)
      refine And.intro (fun _ => ⟨by omega, by omega⟩) ?_
      (conv => whnf)
      (try simp only [hkc, hi, hfk])
      repeat (first | (refine V.s1 ?_; (try simp only [hkc, hi, hfk])) | ((with_reducible refine recheck_and ?_ ?_); (focus ((conv => whnf); (try simp only [hkc, hi, hfk]); (repeat (refine V.s1 ?_; (try simp only [hkc, hi, hfk]))); exact ⟨rfl⟩)); (conv => whnf); (try simp only [hkc, hi, hfk])) | ((try ((with_reducible refine .ext ?_); (conv => whnf); (try simp only [hkc, hi, hfk]))); (with_reducible refine call_intro (r := ?_) ?_ ?_); rotate_left; (focus (first | exact (o2))); (conv => whnf); (try simp only [hkc, hi, hfk])))
      refine Cnd.split (CondB.mk (fun h2 => ?_) (fun h2 => ?_))
      · rw [decide_eq_true_eq] at h2
        have g2 : gtr hi' y = y := by unfold gtr; rw [if_pos (c2.1 h2)]
        rw [g2] at hg1
        (conv => whnf)
        (try simp only [hkc, hi, hfk])
        repeat (first | (refine V.s1 ?_; (try simp only [hkc, hi, hfk])) | ((with_reducible refine recheck_and ?_ ?_); (focus ((conv => whnf); (try simp only [hkc, hi, hfk]); (repeat (refine V.s1 ?_; (try simp only [hkc, hi, hfk]))); exact ⟨rfl⟩)); (conv => whnf); (try simp only [hkc, hi, hfk])))
        (conv => whnf)
        refine And.intro (fun _ => ⟨by omega, by omega⟩) ?_
        (conv => whnf)
        (try simp only [hkc, hi, hfk])
        repeat (first | (refine V.s1 ?_; (try simp only [hkc, hi, hfk])) | ((with_reducible refine recheck_and ?_ ?_); (focus ((conv => whnf); (try simp only [hkc, hi, hfk]); (repeat (refine V.s1 ?_; (try simp only [hkc, hi, hfk]))); exact ⟨rfl⟩)); (conv => whnf); (try simp only [hkc, hi, hfk])))
        refine ⟨k + 1, by omega, by omega, ?_⟩
        rw [hl1, hg1]
        exact V.wk
      · rw [decide_eq_false_iff_not] at h2
        have g2 : gtr hi' y = hi' := by unfold gtr; rw [if_neg (fun h => h2 (c2.2 h))]
        rw [g2] at hg1
        (conv => whnf)
        (try simp only [hkc, hi, hfk])
        repeat (first | (refine V.s1 ?_; (try simp only [hkc, hi, hfk])) | ((with_reducible refine recheck_and ?_ ?_); (focus ((conv => whnf); (try simp only [hkc, hi, hfk]); (repeat (refine V.s1 ?_; (try simp only [hkc, hi, hfk]))); exact ⟨rfl⟩)); (conv => whnf); (try simp only [hkc, hi, hfk])))
        refine ⟨k + 1, by omega, by omega, ?_⟩
        rw [hl1, hg1]
        exact V.wk

    · rw [decide_eq_false_iff_not] at h1
      have g1 : lsr lo y = lo := by unfold lsr; rw [if_neg (fun h => h1 (c1.2 h))]
      rw [g1] at hl1
      (conv => whnf)
      (try simp only [hkc, hi, hfk])
      repeat (first | (refine V.s1 ?_; (try simp only [hkc, hi, hfk])) | ((with_reducible refine recheck_and ?_ ?_); (focus ((conv => whnf); (try simp only [hkc, hi, hfk]); (repeat (refine V.s1 ?_; (try simp only [hkc, hi, hfk]))); exact ⟨rfl⟩)); (conv => whnf); (try simp only [hkc, hi, hfk])))
      refine ⟨(.take 0 (.take 1 (.take 2 (.take 3 (.take 4 (.ev (.cons 5 [] (.take 6 (.done)) (.nil)))))))), ⟨by kernel_rfl, by kernel_rfl, by kernel_rfl⟩, .go ?_⟩
      (conv => whnf)
      (try simp only [hkc, hi, hfk])
      repeat (first | (refine V.s1 ?_; (try simp only [hkc, hi, hfk])) | ((with_reducible refine recheck_and ?_ ?_); (focus ((conv => whnf); (try simp only [hkc, hi, hfk]); (repeat (refine V.s1 ?_; (try simp only [hkc, hi, hfk]))); exact ⟨rfl⟩)); (conv => whnf); (try simp only [hkc, hi, hfk])))
      (conv => whnf)
      refine And.intro (fun _ => ⟨by omega, by omega⟩) ?_
      (conv => whnf)
      (try simp only [hkc, hi, hfk])
      repeat (first | (refine V.s1 ?_; (try simp only [hkc, hi, hfk])) | ((with_reducible refine recheck_and ?_ ?_); (focus ((conv => whnf); (try simp only [hkc, hi, hfk]); (repeat (refine V.s1 ?_; (try simp only [hkc, hi, hfk]))); exact ⟨rfl⟩)); (conv => whnf); (try simp only [hkc, hi, hfk])) | ((try ((with_reducible refine .ext ?_); (conv => whnf); (try simp only [hkc, hi, hfk]))); (with_reducible refine call_intro (r := ?_) ?_ ?_); rotate_left; (focus (first | exact (o2))); (conv => whnf); (try simp only [hkc, hi, hfk])))
      refine Cnd.split (CondB.mk (fun h2 => ?_) (fun h2 => ?_))
      · rw [decide_eq_true_eq] at h2
        have g2 : gtr hi' y = y := by unfold gtr; rw [if_pos (c2.1 h2)]
        rw [g2] at hg1
        (conv => whnf)
        (try simp only [hkc, hi, hfk])
        repeat (first | (refine V.s1 ?_; (try simp only [hkc, hi, hfk])) | ((with_reducible refine recheck_and ?_ ?_); (focus ((conv => whnf); (try simp only [hkc, hi, hfk]); (repeat (refine V.s1 ?_; (try simp only [hkc, hi, hfk]))); exact ⟨rfl⟩)); (conv => whnf); (try simp only [hkc, hi, hfk])))
        (conv => whnf)
        refine And.intro (fun _ => ⟨by omega, by omega⟩) ?_
        (conv => whnf)
        (try simp only [hkc, hi, hfk])
        repeat (first | (refine V.s1 ?_; (try simp only [hkc, hi, hfk])) | ((with_reducible refine recheck_and ?_ ?_); (focus ((conv => whnf); (try simp only [hkc, hi, hfk]); (repeat (refine V.s1 ?_; (try simp only [hkc, hi, hfk]))); exact ⟨rfl⟩)); (conv => whnf); (try simp only [hkc, hi, hfk])))
        refine ⟨k + 1, by omega, by omega, ?_⟩
        rw [hl1, hg1]
        exact V.wk
      · rw [decide_eq_false_iff_not] at h2
        have g2 : gtr hi' y = hi' := by unfold gtr; rw [if_neg (fun h => h2 (c2.2 h))]
        rw [g2] at hg1
        (conv => whnf)
        (try simp only [hkc, hi, hfk])
        repeat (first | (refine V.s1 ?_; (try simp only [hkc, hi, hfk])) | ((with_reducible refine recheck_and ?_ ?_); (focus ((conv => whnf); (try simp only [hkc, hi, hfk]); (repeat (refine V.s1 ?_; (try simp only [hkc, hi, hfk]))); exact ⟨rfl⟩)); (conv => whnf); (try simp only [hkc, hi, hfk])))
        refine ⟨k + 1, by omega, by omega, ?_⟩
        rw [hl1, hg1]
        exact V.wk

  · rw [decide_eq_false_iff_not] at hq
    have hk2 : k = xs.length := by omega
    rw [hk2, List.take_length]
    (conv => whnf)
    refine V.st ?_
    repeat ((try ((with_reducible refine .ext ?_); (conv => whnf))); (with_reducible refine call_intro (r := ?_) ?_ ?_); rotate_left; (focus (first | exact (ht))); (conv => whnf); refine V.st ?_)
    exact Fin.of rfl
end Go.Proofs.YtplflfnfodghmaaGreatDoor
end
section
/-! the reference's bands: Add, Sub, Mul, Div, Min, Max, Hull, Meet -/
set_option linter.unusedSimpArgs false
set_option linter.unusedVariables false
set_option maxHeartbeats 8000000
set_option maxRecDepth 100000
namespace Go.Proofs.YtplflfnfodghmaaGreatDoor
open Go Go.V Go.Nb
theorem fl_floor (q : Rat) : fl q = q.floor := by unfold fl; rw [Rat.floor_def]
theorem fl_mono {x y : Rat} (h : x ≤ y) : fl x ≤ fl y := by rw [fl_floor, fl_floor]; exact Rat.floor_monotone h
theorem fl_divInt (n d : Int) (hd : 0 < d) : fl (Rat.divInt n d) = n / d := by
  unfold fl
  rw [Rat.num_divInt, Rat.den_divInt, if_neg (by omega), Int.sign_eq_one_of_pos hd, Int.one_mul]
  have hg : 0 < d.gcd n := Int.gcd_pos_of_ne_zero_left _ (by omega)
  obtain ⟨a, ha⟩ := Int.gcd_dvd_right d n
  obtain ⟨b, hb⟩ := Int.gcd_dvd_left d n
  generalize d.gcd n = g at *
  have e1 : n / (g : Int) = a := by rw [ha, Int.mul_ediv_cancel_left _ (by omega)]
  have e2 : ((d.natAbs / g : Nat) : Int) = b := by
    rw [Int.natCast_ediv, show (d.natAbs : Int) = d by omega, hb, Int.mul_ediv_cancel_left _ (by omega)]
  rw [e1, e2, ha, hb, Int.mul_ediv_mul_of_pos _ _ (by omega)]
theorem flo_scale {z d k : Int} (hk : 0 < k) : flo (z * k) (d * k) = flo z d := by
  unfold flo
  by_cases hd : 0 < d
  · rw [if_pos (Int.mul_pos hd hk), if_pos hd, Int.mul_ediv_mul_of_pos_left _ _ hk]
  · have : ¬ 0 < d * k := fun h => hd (by
      rcases Int.lt_or_le 0 d with h2 | h2
      · exact h2
      · have := Int.mul_nonpos_of_nonpos_of_nonneg h2 (Int.le_of_lt hk); omega)
    rw [if_neg this, if_neg hd, ← Int.neg_mul, ← Int.neg_mul, Int.mul_ediv_mul_of_pos_left _ _ hk]
theorem cei_scale {z d k : Int} (hk : 0 < k) : cei (z * k) (d * k) = cei z d := by
  unfold cei; rw [← Int.neg_mul, flo_scale hk]
theorem fl_any (n d : Int) (hd : d ≠ 0) : fl (Rat.divInt n d) = flo n d := by
  unfold flo
  by_cases h : 0 < d
  · rw [if_pos h, fl_divInt n d h]
  · rw [if_neg h, ← Rat.neg_divInt_neg, fl_divInt _ _ (by omega)]
/-- the lower and the upper end of a number -/
def loE (x : Rat) : Int := fl (x * oneE)
def hiE (x : Rat) : Int := 0 - fl (-(x * oneE))
theorem tightR_eq (x y : Rat) : tightR x y = mk (loE x) (hiE y) := rfl
theorem mul_oneE (n d : Int) : Rat.divInt n d * oneE = Rat.divInt (n * 1000000000000) d := by
  unfold oneE; rw [Rat.divInt_mul_divInt, Int.mul_one]
theorem loE_divInt (n d : Int) (hd : d ≠ 0) : loE (Rat.divInt n d) = flo (n * 1000000000000) d := by
  unfold loE; rw [mul_oneE, fl_any _ _ hd]
theorem hiE_divInt (n d : Int) (hd : d ≠ 0) : hiE (Rat.divInt n d) = cei (n * 1000000000000) d := by
  unfold hiE cei; rw [mul_oneE, Rat.neg_divInt, fl_any _ _ hd]; omega
theorem oneE_pos : (0 : Rat) ≤ oneE := by decide +kernel
theorem loE_mono {x y : Rat} (h : x ≤ y) : loE x ≤ loE y := fl_mono (Rat.mul_le_mul_of_nonneg_right h oneE_pos)
theorem hiE_mono {x y : Rat} (h : x ≤ y) : hiE x ≤ hiE y := by
  have := fl_mono (Rat.neg_le_neg (Rat.mul_le_mul_of_nonneg_right h oneE_pos))
  unfold hiE; omega
theorem loE_lsr (a b : Rat) : loE (lsr a b) = min (loE a) (loE b) := by
  unfold lsr
  by_cases h : b < a
  · rw [if_pos h]; have := loE_mono (Rat.le_of_lt h); omega
  · rw [if_neg h]; have := loE_mono (Rat.not_lt.1 h); omega
theorem hiE_gtr (a b : Rat) : hiE (gtr a b) = max (hiE a) (hiE b) := by
  unfold gtr
  by_cases h : a < b
  · rw [if_pos h]; have := hiE_mono (Rat.le_of_lt h); omega
  · rw [if_neg h]; have := hiE_mono (Rat.not_lt.1 h); omega
theorem tight4 (a b c d : Rat) : tightR ([b, c, d].foldl lsr a) ([b, c, d].foldl gtr a) = mk (mn4 (loE a) (loE b) (loE c) (loE d)) (mx4 (hiE a) (hiE b) (hiE c) (hiE d)) := by
  rw [tightR_eq]
  simp only [List.foldl_cons, List.foldl_nil, loE_lsr, hiE_gtr]
  rfl
theorem unit_mul (p q : Int) : unit p * unit q = Rat.divInt (p * q) (1000000000000 * 1000000000000) := by
  unfold unit; rw [Rat.divInt_mul_divInt]
theorem unit_add (p q : Int) : unit p + unit q = unit (p + q) := by
  unfold unit
  rw [Rat.divInt_add_divInt _ _ (by decide) (by decide), ← Int.add_mul, Rat.divInt_mul_right (by decide)]
theorem unit_sub (p q : Int) : unit p - unit q = unit (p - q) := by
  unfold unit
  rw [Rat.divInt_sub_divInt _ _ (by decide) (by decide), ← Int.sub_mul, Rat.divInt_mul_right (by decide)]
theorem unit_div (p q : Int) : unit p / unit q = Rat.divInt p q := by
  unfold unit
  rw [Rat.div_def, Rat.inv_divInt, Rat.divInt_mul_divInt, Int.mul_comm 1000000000000 q, Rat.divInt_mul_right (by decide)]
theorem loE_unit (p : Int) : loE (unit p) = p := by
  unfold unit; rw [loE_divInt _ _ (by decide), flo_self (by decide)]
theorem hiE_unit (p : Int) : hiE (unit p) = p := by
  unfold unit; rw [hiE_divInt _ _ (by decide), cei_self (by decide)]
theorem loE_mul (p q : Int) : loE (unit p * unit q) = flo (p * q) 1000000000000 := by
  rw [unit_mul, loE_divInt _ _ (by decide), flo_scale (by decide)]
theorem hiE_mul (p q : Int) : hiE (unit p * unit q) = cei (p * q) 1000000000000 := by
  rw [unit_mul, hiE_divInt _ _ (by decide), cei_scale (by decide)]
theorem loE_div (p q : Int) (h : q ≠ 0) : loE (unit p / unit q) = flo (p * 1000000000000) q := by rw [unit_div, loE_divInt _ _ h]
theorem hiE_div (p q : Int) (h : q ≠ 0) : hiE (unit p / unit q) = cei (p * 1000000000000) q := by rw [unit_div, hiE_divInt _ _ h]
theorem unit_q4 (p : Int) (h : -9223372036854775808 ≤ p ∧ p ≤ 9223372036854775807) : Q4 5 (unit p) := by
  unfold unit
  exact Q4.of (Sm.lit (by omega)) (Sm.lit (by decide)) (by decide)
theorem divInt_q4 (p q : Int) (h : -9223372036854775808 ≤ p ∧ p ≤ 9223372036854775807) (g : -9223372036854775808 ≤ q ∧ q ≤ 9223372036854775807) (h0 : q ≠ 0) : Q4 5 (Rat.divInt p q) := Q4.of (Sm.lit (by omega)) (Sm.lit (by omega)) h0
end Go.Proofs.YtplflfnfodghmaaGreatDoor
end
section
/-! the reference's bands: plain laws for Sqr and Scale; Neg, Abs, Clamp, Sqr, Scale -/
set_option linter.unusedSimpArgs false
set_option linter.unusedVariables false
set_option maxHeartbeats 8000000
set_option maxRecDepth 100000
namespace Go.Proofs.YtplflfnfodghmaaGreatDoor
open Go Go.V Go.Nb
theorem tight2 (a b : Rat) : tightR ([b].foldl lsr a) ([b].foldl gtr a) = mk (min (loE a) (loE b)) (max (hiE a) (hiE b)) := by
  rw [tightR_eq]
  simp only [List.foldl_cons, List.foldl_nil, loE_lsr, hiE_gtr]
theorem tight3 (a b c : Rat) : tightR ([b, c].foldl lsr a) ([b, c].foldl gtr a) = mk (min (min (loE a) (loE b)) (loE c)) (max (max (hiE a) (hiE b)) (hiE c)) := by
  rw [tightR_eq]
  simp only [List.foldl_cons, List.foldl_nil, loE_lsr, hiE_gtr]
theorem flo_nn {z : Int} (h : 0 ≤ z) : 0 ≤ flo z 1000000000000 := by
  unfold flo; rw [if_pos (by decide)]; exact Int.ediv_nonneg h (by decide)
theorem cei_nn {z : Int} (h : 0 ≤ z) : 0 ≤ cei z 1000000000000 := by
  have := flo_nn h
  have := flo_le_cei z 1000000000000 (by decide)
  omega
theorem sq_mono {x y : Int} (h : 0 ≤ x) (hxy : x ≤ y) : x * x ≤ y * y := Int.mul_le_mul hxy hxy h (by omega)
theorem sq_neg (x : Int) : (0 - x) * (0 - x) = x * x := by rw [Int.zero_sub, Int.neg_mul_neg]
/-- a square, by the squares of the ends -/
theorem sqr_far {p q : Int} (hpq : p ≤ q) (h : 0 ≤ p ∨ q ≤ 0) : sqrR p q = mk (min (flo (p * p) 1000000000000) (flo (q * q) 1000000000000)) (max (cei (p * p) 1000000000000) (cei (q * q) 1000000000000)) := by
  unfold sqrR
  rcases h with h | h
  · rw [show max (max p (0 - q)) 0 = p by omega, show max (0 - p) q = q by omega]
    have h1 := sq_mono h hpq
    have h2 := flo_mono (d := 1000000000000) (by decide) h1
    have h3 := cei_mono (d := 1000000000000) (by decide) h1
    congr 1 <;> omega
  · rw [show max (max p (0 - q)) 0 = 0 - q by omega, show max (0 - p) q = 0 - p by omega, sq_neg, sq_neg]
    have h1 := sq_mono (x := 0 - q) (y := 0 - p) (by omega) (by omega)
    rw [sq_neg, sq_neg] at h1
    have h2 := flo_mono (d := 1000000000000) (by decide) h1
    have h3 := cei_mono (d := 1000000000000) (by decide) h1
    congr 1 <;> omega
theorem sqr_near {p q : Int} (h1 : p < 0) (h2 : 0 < q) : sqrR p q = mk (min (min (flo (p * p) 1000000000000) (flo (q * q) 1000000000000)) 0) (max (max (cei (p * p) 1000000000000) (cei (q * q) 1000000000000)) 0) := by
  unfold sqrR
  have p0 : 0 ≤ p * p := by have := sq_mono (x := 0) (y := 0 - p) (by omega) (by omega); rw [sq_neg] at this; omega
  have q0 : 0 ≤ q * q := Int.mul_nonneg (by omega) (by omega)
  have f1 := flo_nn p0
  have f2 := flo_nn q0
  have c1 := cei_nn p0
  have c2 := cei_nn q0
  rw [show max (max p (0 - q)) 0 = 0 by omega, show flo (0 * 0) 1000000000000 = 0 from rfl]
  rcases Int.le_total (0 - p) q with h | h
  · rw [show max (0 - p) q = q by omega]
    have h3 := sq_mono (x := 0 - p) (y := q) (by omega) h
    rw [sq_neg] at h3
    have h4 := cei_mono (d := 1000000000000) (by decide) h3
    congr 1 <;> omega
  · rw [show max (0 - p) q = 0 - p by omega]
    have h3 := sq_mono (x := q) (y := 0 - p) (by omega) h
    rw [sq_neg] at h3 ⊢
    have h4 := cei_mono (d := 1000000000000) (by decide) h3
    congr 1 <;> omega
theorem scl_two (p q n d : Int) : sclR p q n d = mk (min (flo (p * n) d) (flo (q * n) d)) (max (cei (p * n) d) (cei (q * n) d)) := by
  unfold sclR mn4 mx4
  congr 1 <;> omega
theorem unit_scl (p n d : Int) : unit p * Rat.divInt n d = Rat.divInt (p * n) (1000000000000 * d) := by
  unfold unit; rw [Rat.divInt_mul_divInt]
theorem loE_scl (p n d : Int) (hd : d ≠ 0) : loE (unit p * Rat.divInt n d) = flo (p * n) d := by
  rw [unit_scl, loE_divInt _ _ (Int.mul_ne_zero (by decide) hd), Int.mul_comm 1000000000000 d, flo_scale (by decide)]
theorem hiE_scl (p n d : Int) (hd : d ≠ 0) : hiE (unit p * Rat.divInt n d) = cei (p * n) d := by
  rw [unit_scl, hiE_divInt _ _ (Int.mul_ne_zero (by decide) hd), Int.mul_comm 1000000000000 d, cei_scale (by decide)]
theorem loE_zero : loE (Rat.divInt 0 1) = 0 := by decide +kernel
theorem hiE_zero : hiE (Rat.divInt 0 1) = 0 := by decide +kernel
end Go.Proofs.YtplflfnfodghmaaGreatDoor
end
section
/-! Low, High of both; Mid, Width, Sign, Cmp of the reference -/
set_option linter.unusedSimpArgs false
set_option linter.unusedVariables false
set_option maxHeartbeats 8000000
set_option maxRecDepth 100000
namespace Go.Proofs.YtplflfnfodghmaaGreatDoor
open Go Go.V Go.Nb
/-- a fraction, or none, with an error -/
def fD (r : List UInt8 × List UInt8 × Int) : D := .tup [.agg [.str r.1, .str r.2.1], .int .i64 r.2.2]
/-- n units as a fraction's texts -/
def unF (n : Int) : List UInt8 × List UInt8 × Int := (decZ (unit n).num, dec (unit n).den, 0)
theorem end_c (n : Int) (h : -9223372036854775808 ≤ n ∧ n ≤ 9223372036854775807) : Called Tryz.prog 84 [.int .i64 n] (fD (unF n)) := by
  have h1 : Called Tryz.prog 49 [.int .i64 n, .int .i64 1000000000000] (fD (unF n)) := of_unit n h
  generalize unF n = r at *
  unfold fD at *
  refine called_of_run tbOk 6 ⟨Tryz.func84, rfl, rfl, Nat.le_of_ble_eq_true rfl⟩ ?_
  (conv => whnf)
  refine V.st ?_
  repeat ((try ((with_reducible refine .ext ?_); (conv => whnf))); (with_reducible refine call_intro (r := ?_) ?_ ?_); rotate_left; (focus (first | exact (h1))); (conv => whnf); refine V.st ?_)
  exact Fin.of rfl
theorem out_unit (n : Int) (h : -9223372036854775808 ≤ n ∧ n ≤ 9223372036854775807) : Called Tryz.prog 85 [raD (unit n)] (fD (unF n)) := by
  have q1 := unit_q4 n h
  have h1 := out02_c (unit n) (q1.1.mono (by omega)) (q1.2.mono (by omega))
  have h2 : okF (unit n) = true := okF_unit n h
  unfold frR at h1
  rw [h2] at h1
  exact h1
theorem low_b (p q : Int) : Called Tryz.prog 20 [bA p q] (fD (if vb p q = true then unF p else ([], [], 30))) := by
  by_cases hv : vb p q = true
  · rw [if_pos hv]
    have hb := vb_iff.1 hv
    have e1 := end_c p (by omega)
    generalize unF p = r at *
    unfold fD at *
    have hc : Called Tryz.prog 83 [.ref [.int .i64 p, .int .i64 q]] (.tup [.agg [.str r.1, .str r.2.1], .int .i64 r.2.2]) := by
      refine called_of_run tbOk 6 ⟨Tryz.func83, rfl, rfl, Nat.le_of_ble_eq_true rfl⟩ ?_
      (conv => whnf)
      refine V.st ?_
      repeat ((try ((with_reducible refine .ext ?_); (conv => whnf))); (with_reducible refine call_intro (r := ?_) ?_ ?_); rotate_left; (focus (first | exact (e1))); (conv => whnf); refine V.st ?_)
      exact Fin.of rfl
    have hk := ckf1_ok 83 p q r.1 r.2.1 r.2.2 1 (l1 p q) (fun _ => p) (fun _ => q) (l1_c p q) (by omega) (fun _ _ => hv) hc
    refine called_of_run tbOk 6 ⟨Tryz.func20, rfl, rfl, Nat.le_of_ble_eq_true rfl⟩ ?_
    (conv => whnf)
    refine V.st ?_
    repeat ((try ((with_reducible refine .ext ?_); (conv => whnf))); (with_reducible refine call_intro (r := ?_) ?_ ?_); rotate_left; (focus (first | exact (hk))); (conv => whnf); refine V.st ?_)
    exact Fin.of rfl
  · rw [if_neg hv]
    have hk := ckf1_no 83 p q [] [] 0 1 (l1 p q) (fun _ => p) (fun _ => q) (l1_c p q) (by omega) (one_no hv)
    unfold fD
    refine called_of_run tbOk 6 ⟨Tryz.func20, rfl, rfl, Nat.le_of_ble_eq_true rfl⟩ ?_
    (conv => whnf)
    refine V.st ?_
    repeat ((try ((with_reducible refine .ext ?_); (conv => whnf))); (with_reducible refine call_intro (r := ?_) ?_ ?_); rotate_left; (focus (first | exact (hk))); (conv => whnf); refine V.st ?_)
    exact Fin.of rfl
theorem low_r (p q : Int) : Called Tryz.prog 21 [bA p q] (fD (if vb p q = true then unF p else ([], [], 30))) := by
  have r1 := right03_c p q
  by_cases hv : vb p q = true
  · rw [if_pos hv]
    rw [hv] at r1
    have hb := vb_iff.1 hv
    have v1 := value_c p (by simp only [InR, V.lo, V.hi]; omega)
    rw [show ∀ z, Rat.divInt z 1000000000000 = unit z from fun _ => rfl] at v1
    have o1 := out_unit p (by omega)
    generalize unF p = r at *
    unfold fD at *
    refine called_of_run tbOk 6 ⟨Tryz.func21, rfl, rfl, Nat.le_of_ble_eq_true rfl⟩ ?_
    (conv => whnf)
    refine V.st ?_
    repeat ((try ((with_reducible refine .ext ?_); (conv => whnf))); (with_reducible refine call_intro (r := ?_) ?_ ?_); rotate_left; (focus (first | exact (r1) | exact (v1) | exact (o1))); (conv => whnf); refine V.st ?_)
    exact Fin.of rfl
  · rw [if_neg hv]
    rw [Bool.eq_false_iff.2 hv] at r1
    unfold fD
    refine called_of_run tbOk 6 ⟨Tryz.func21, rfl, rfl, Nat.le_of_ble_eq_true rfl⟩ ?_
    (conv => whnf)
    refine V.st ?_
    repeat ((try ((with_reducible refine .ext ?_); (conv => whnf))); (with_reducible refine call_intro (r := ?_) ?_ ?_); rotate_left; (focus (first | exact (r1))); (conv => whnf); refine V.st ?_)
    exact Fin.of rfl
theorem high_b (p q : Int) : Called Tryz.prog 22 [bA p q] (fD (if vb p q = true then unF q else ([], [], 30))) := by
  by_cases hv : vb p q = true
  · rw [if_pos hv]
    have hb := vb_iff.1 hv
    have e1 := end_c q (by omega)
    generalize unF q = r at *
    unfold fD at *
    have hc : Called Tryz.prog 86 [.ref [.int .i64 p, .int .i64 q]] (.tup [.agg [.str r.1, .str r.2.1], .int .i64 r.2.2]) := by
      refine called_of_run tbOk 6 ⟨Tryz.func86, rfl, rfl, Nat.le_of_ble_eq_true rfl⟩ ?_
      (conv => whnf)
      refine V.st ?_
      repeat ((try ((with_reducible refine .ext ?_); (conv => whnf))); (with_reducible refine call_intro (r := ?_) ?_ ?_); rotate_left; (focus (first | exact (e1))); (conv => whnf); refine V.st ?_)
      exact Fin.of rfl
    have hk := ckf1_ok 86 p q r.1 r.2.1 r.2.2 1 (l1 p q) (fun _ => p) (fun _ => q) (l1_c p q) (by omega) (fun _ _ => hv) hc
    refine called_of_run tbOk 6 ⟨Tryz.func22, rfl, rfl, Nat.le_of_ble_eq_true rfl⟩ ?_
    (conv => whnf)
    refine V.st ?_
    repeat ((try ((with_reducible refine .ext ?_); (conv => whnf))); (with_reducible refine call_intro (r := ?_) ?_ ?_); rotate_left; (focus (first | exact (hk))); (conv => whnf); refine V.st ?_)
    exact Fin.of rfl
  · rw [if_neg hv]
    have hk := ckf1_no 86 p q [] [] 0 1 (l1 p q) (fun _ => p) (fun _ => q) (l1_c p q) (by omega) (one_no hv)
    unfold fD
    refine called_of_run tbOk 6 ⟨Tryz.func22, rfl, rfl, Nat.le_of_ble_eq_true rfl⟩ ?_
    (conv => whnf)
    refine V.st ?_
    repeat ((try ((with_reducible refine .ext ?_); (conv => whnf))); (with_reducible refine call_intro (r := ?_) ?_ ?_); rotate_left; (focus (first | exact (hk))); (conv => whnf); refine V.st ?_)
    exact Fin.of rfl
theorem high_r (p q : Int) : Called Tryz.prog 23 [bA p q] (fD (if vb p q = true then unF q else ([], [], 30))) := by
  have r1 := right03_c p q
  by_cases hv : vb p q = true
  · rw [if_pos hv]
    rw [hv] at r1
    have hb := vb_iff.1 hv
    have v1 := value_c q (by simp only [InR, V.lo, V.hi]; omega)
    rw [show ∀ z, Rat.divInt z 1000000000000 = unit z from fun _ => rfl] at v1
    have o1 := out_unit q (by omega)
    generalize unF q = r at *
    unfold fD at *
    refine called_of_run tbOk 6 ⟨Tryz.func23, rfl, rfl, Nat.le_of_ble_eq_true rfl⟩ ?_
    (conv => whnf)
    refine V.st ?_
    repeat ((try ((with_reducible refine .ext ?_); (conv => whnf))); (with_reducible refine call_intro (r := ?_) ?_ ?_); rotate_left; (focus (first | exact (r1) | exact (v1) | exact (o1))); (conv => whnf); refine V.st ?_)
    exact Fin.of rfl
  · rw [if_neg hv]
    rw [Bool.eq_false_iff.2 hv] at r1
    unfold fD
    refine called_of_run tbOk 6 ⟨Tryz.func23, rfl, rfl, Nat.le_of_ble_eq_true rfl⟩ ?_
    (conv => whnf)
    refine V.st ?_
    repeat ((try ((with_reducible refine .ext ?_); (conv => whnf))); (with_reducible refine call_intro (r := ?_) ?_ ?_); rotate_left; (focus (first | exact (r1))); (conv => whnf); refine V.st ?_)
    exact Fin.of rfl
theorem mid_r (p q : Int) : Called Tryz.prog 25 [bA p q] (iD (if vb p q = true then ((p + q) / 2, 0) else (0, 30))) := by
  have r1 := right03_c p q
  by_cases hv : vb p q = true
  · rw [if_pos hv]
    rw [hv] at r1
    have hb := vb_iff.1 hv
    have k1 := quick_c (p + q) 2 (by simp only [InR, V.lo, V.hi]; omega) (by constructor <;> decide) (by decide)
    have q1 : Q4 5 (Rat.divInt (p + q) 2) := divInt_q4 (p + q) 2 (by omega) (by omega) (by omega)
    have d1 := down_c _ (q1.mono (by omega))
    have e : (Rat.divInt (p + q) 2).num / ((Rat.divInt (p + q) 2).den : Int) = (p + q) / 2 := fl_divInt (p + q) 2 (by decide)
    rw [e] at d1
    have i1 := integral_c ((p + q) / 2) ((Sm.lit (by omega) : Sm 5 ((p + q) / 2)).mono (by omega))
    rw [if_pos (by omega), if_pos (by omega)] at i1
    clear e q1
    generalize Rat.divInt (p + q) 2 = x at *
    generalize (p + q) / 2 = z at *
    unfold iD
    refine called_of_run tbOk 6 ⟨Tryz.func25, rfl, rfl, Nat.le_of_ble_eq_true rfl⟩ ?_
    (conv => whnf)
    refine V.st ?_
    repeat ((try ((with_reducible refine .ext ?_); (conv => whnf))); (with_reducible refine call_intro (r := ?_) ?_ ?_); rotate_left; (focus (first | exact (r1) | exact (k1) | exact (d1) | exact (i1))); (conv => whnf); refine V.st ?_)
    exact Fin.of rfl
  · rw [if_neg hv]
    rw [Bool.eq_false_iff.2 hv] at r1
    unfold iD
    refine called_of_run tbOk 6 ⟨Tryz.func25, rfl, rfl, Nat.le_of_ble_eq_true rfl⟩ ?_
    (conv => whnf)
    refine V.st ?_
    repeat ((try ((with_reducible refine .ext ?_); (conv => whnf))); (with_reducible refine call_intro (r := ?_) ?_ ?_); rotate_left; (focus (first | exact (r1))); (conv => whnf); refine V.st ?_)
    exact Fin.of rfl
theorem width_r (p q : Int) : Called Tryz.prog 27 [bA p q] (iD (if vb p q = true then (q - p, 0) else (0, 30))) := by
  have r1 := right03_c p q
  unfold iD
  by_cases hv : vb p q = true
  · rw [if_pos hv]
    rw [hv] at r1
    have hb := vb_iff.1 hv
    refine called_of_run tbOk 6 ⟨Tryz.func27, rfl, rfl, Nat.le_of_ble_eq_true rfl⟩ ?_
    (conv => whnf)
    refine V.st ?_
    repeat ((try ((with_reducible refine .ext ?_); (conv => whnf))); (with_reducible refine call_intro (r := ?_) ?_ ?_); rotate_left; (focus (first | exact (r1))); (conv => whnf); refine V.st ?_)
    exact Fin.of rfl
  · rw [if_neg hv]
    rw [Bool.eq_false_iff.2 hv] at r1
    refine called_of_run tbOk 6 ⟨Tryz.func27, rfl, rfl, Nat.le_of_ble_eq_true rfl⟩ ?_
    (conv => whnf)
    refine V.st ?_
    repeat ((try ((with_reducible refine .ext ?_); (conv => whnf))); (with_reducible refine call_intro (r := ?_) ?_ ?_); rotate_left; (focus (first | exact (r1))); (conv => whnf); refine V.st ?_)
    exact Fin.of rfl
theorem sign_r (p q : Int) : Called Tryz.prog 29 [bA p q] (iD (if vb p q = true then (sgn p q, 0) else (0, 30))) := by
  have r1 := right03_c p q
  unfold iD
  by_cases hv : vb p q = true
  · rw [if_pos hv]
    rw [hv] at r1
    have hb := vb_iff.1 hv
    unfold sgn
    refine called_of_run tbOk 6 ⟨Tryz.func29, rfl, rfl, Nat.le_of_ble_eq_true rfl⟩ ?_
    (conv => whnf)
    refine V.st ?_
    repeat ((try ((with_reducible refine .ext ?_); (conv => whnf))); (with_reducible refine call_intro (r := ?_) ?_ ?_); rotate_left; (focus (first | exact (r1))); (conv => whnf); refine V.st ?_)
    refine Cnd.split (CondB.mk (fun h1 => ?_) (fun h1 => ?_))
    · rw [decide_eq_true_eq] at h1
      rw [if_pos h1]
      (conv => whnf)
      refine V.st ?_
      exact Fin.of rfl
    · rw [decide_eq_false_iff_not] at h1
      rw [if_neg h1]
      (conv => whnf)
      refine V.st ?_
      refine Cnd.split (CondB.mk (fun h2 => ?_) (fun h2 => ?_))
      · rw [decide_eq_true_eq] at h2
        rw [if_pos h2]
        (conv => whnf)
        refine V.st ?_
        exact Fin.of rfl
      · rw [decide_eq_false_iff_not] at h2
        rw [if_neg h2]
        (conv => whnf)
        refine V.st ?_
        refine Cnd.split (CondB.mk (fun h3 => ?_) (fun h3 => ?_))
        · simp only [Bool.and_true, Bool.and_eq_true, decide_eq_true_eq] at h3
          rw [if_pos h3]
          (conv => whnf)
          refine V.st ?_
          exact Fin.of rfl
        · rw [if_neg (fun h => by simp [h.1, h.2] at h3)]
          (conv => whnf)
          refine V.st ?_
          exact Fin.of rfl
  · rw [if_neg hv]
    rw [Bool.eq_false_iff.2 hv] at r1
    refine called_of_run tbOk 6 ⟨Tryz.func29, rfl, rfl, Nat.le_of_ble_eq_true rfl⟩ ?_
    (conv => whnf)
    refine V.st ?_
    repeat ((try ((with_reducible refine .ext ?_); (conv => whnf))); (with_reducible refine call_intro (r := ?_) ?_ ?_); rotate_left; (focus (first | exact (r1))); (conv => whnf); refine V.st ?_)
    exact Fin.of rfl
theorem cmp_r (p q p2 q2 : Int) : Called Tryz.prog 31 [bA p q, bA p2 q2] (iD (if vb p q = true ∧ vb p2 q2 = true then (cmpB p q p2 q2, 0) else (0, 30))) := by
  have r1 := right03_c p q
  have r2 := right03_c p2 q2
  unfold iD
  by_cases hv : vb p q = true ∧ vb p2 q2 = true
  · rw [if_pos hv]
    rw [hv.1] at r1
    rw [hv.2] at r2
    unfold cmpB
    refine called_of_run tbOk 6 ⟨Tryz.func31, rfl, rfl, Nat.le_of_ble_eq_true rfl⟩ ?_
    (conv => whnf)
    refine V.st ?_
    repeat ((try ((with_reducible refine .ext ?_); (conv => whnf))); (with_reducible refine call_intro (r := ?_) ?_ ?_); rotate_left; (focus (first | exact (r1) | exact (r2))); (conv => whnf); refine V.st ?_)
    refine Cnd.split (CondB.mk (fun h1 => ?_) (fun h1 => ?_))
    · rw [decide_eq_true_eq] at h1
      rw [if_pos h1]
      (conv => whnf)
      refine V.st ?_
      exact Fin.of rfl
    · rw [decide_eq_false_iff_not] at h1
      rw [if_neg h1]
      (conv => whnf)
      refine V.st ?_
      refine Cnd.split (CondB.mk (fun h2 => ?_) (fun h2 => ?_))
      · rw [decide_eq_true_eq] at h2
        rw [if_pos h2]
        (conv => whnf)
        refine V.st ?_
        exact Fin.of rfl
      · rw [decide_eq_false_iff_not] at h2
        rw [if_neg h2]
        (conv => whnf)
        refine V.st ?_
        refine Cnd.split (CondB.mk (fun h3 => ?_) (fun h3 => ?_))
        · simp only [Bool.and_true, Bool.and_eq_true, decide_eq_true_eq] at h3
          rw [if_pos (by omega)]
          (conv => whnf)
          refine V.st ?_
          exact Fin.of rfl
        · rw [if_neg (fun h => by simp only [Bool.and_true, Bool.and_eq_false_iff, decide_eq_false_iff_not] at h3; omega)]
          (conv => whnf)
          refine V.st ?_
          exact Fin.of rfl
  · rw [if_neg hv]
    by_cases h1 : vb p q = true
    · have h2 : vb p2 q2 = false := Bool.eq_false_iff.2 (fun h => hv ⟨h1, h⟩)
      rw [h1] at r1
      rw [h2] at r2
      refine called_of_run tbOk 6 ⟨Tryz.func31, rfl, rfl, Nat.le_of_ble_eq_true rfl⟩ ?_
      (conv => whnf)
      refine V.st ?_
      repeat ((try ((with_reducible refine .ext ?_); (conv => whnf))); (with_reducible refine call_intro (r := ?_) ?_ ?_); rotate_left; (focus (first | exact (r1) | exact (r2))); (conv => whnf); refine V.st ?_)
      exact Fin.of rfl
    · rw [Bool.eq_false_iff.2 h1] at r1
      refine called_of_run tbOk 6 ⟨Tryz.func31, rfl, rfl, Nat.le_of_ble_eq_true rfl⟩ ?_
      (conv => whnf)
      refine V.st ?_
      repeat ((try ((with_reducible refine .ext ?_); (conv => whnf))); (with_reducible refine call_intro (r := ?_) ?_ ?_); rotate_left; (focus (first | exact (r1))); (conv => whnf); refine V.st ?_)
      try refine ⟨.bool false, fun h => by simp at h, ?_⟩
      (conv => whnf)
      refine V.st ?_
      exact Fin.of rfl
end Go.Proofs.YtplflfnfodghmaaGreatDoor
end
section
/-! drafted fractions: Short and Unit -/
set_option linter.unusedSimpArgs false
set_option linter.unusedVariables false
set_option maxHeartbeats 8000000
set_option maxRecDepth 100000
namespace Go.Proofs.YtplflfnfodghmaaGreatDoor
open Go Go.V Go.Nb
theorem outs_c (n m : Int) (hn : -999999 ≤ n ∧ n ≤ 999999) (hm : 1 ≤ m ∧ m ≤ 999999) : Called Tryz.prog 75 [.int .i64 n, .int .i64 m] (raD (Rat.divInt n m)) ∧ Called Tryz.prog 85 [raD (Rat.divInt n m)] (.tup [frT (Rat.divInt n m), .int .i64 0]) := by
  have q1 : Q4 5 (Rat.divInt n m) := divInt_q4 n m (by omega) (by omega) (by omega)
  have h1 := out02_c (Rat.divInt n m) (q1.1.mono (by omega)) (q1.2.mono (by omega))
  have h2 := out_small n m hn hm
  unfold frR at h1
  rw [h2] at h1
  exact ⟨quick_c n m (by simp only [InR, V.lo, V.hi]; omega) (by simp only [InR, V.lo, V.hi]; omega) (by omega), h1⟩
theorem smZ_b (b : Bool) (xs : List Int) : -999999 ≤ smZ b xs ∧ smZ b xs ≤ 999999 := by
  have := smN_b xs
  unfold smZ
  split <;> omega
theorem dshort_c (b : Bool) (xs : List Int) (z : Int) (b2 : Bool) (xs2 : List Int) (z2 : Int) : ∃ n m : Int, (-999 ≤ n ∧ n ≤ 999) ∧ (1 ≤ m ∧ m ≤ 60) ∧
    Called Tryz.prog 40 [.agg [.bool b, .ints .u16 xs, .int .u16 z, .bool b2, .ints .u16 xs2, .int .u16 z2]] (frT (Rat.divInt n m)) := by
  have h1 := dsmall_c b xs z
  have h2 := dsmall_c b2 xs2 z2
  have e1 := smZ_b b xs
  have e2 := smZ_b b2 xs2
  generalize smZ b xs = s at *
  generalize smZ b2 xs2 = t at *
  have t1 := tmod_bd s (n := 1000) (by omega)
  by_cases ht : t < 0
  · have t2 : 0 ≤ (0 - t) % 60 ∧ (0 - t) % 60 < 60 := by omega
    refine ⟨s.tmod 1000, 1 + (0 - t) % 60, by omega, by omega, ?_⟩
    obtain ⟨k1, k2⟩ := outs_c (s.tmod 1000) (1 + (0 - t) % 60) (by omega) (by omega)
    generalize Rat.divInt (s.tmod 1000) (1 + (0 - t) % 60) = x at *
    unfold frT at *
    refine called_of_run tbOk 6 ⟨Tryz.func40, rfl, rfl, Nat.le_of_ble_eq_true rfl⟩ ?_
    (conv => whnf)
    refine V.st ?_
    repeat ((try ((with_reducible refine .ext ?_); (conv => whnf))); (with_reducible refine call_intro (r := ?_) ?_ ?_); rotate_left; (focus (first | exact (h1) | exact (h2))); (conv => whnf); refine V.st ?_)
    refine Cnd.split (CondB.mk (fun g => ?_) (fun g => ?_))
    · (conv => whnf)
      refine V.st ?_
      repeat ((try ((with_reducible refine .ext ?_); (conv => whnf))); (with_reducible refine call_intro (r := ?_) ?_ ?_); rotate_left; (focus (first | exact (h1) | exact (k1) | exact (k2))); (conv => whnf); refine V.st ?_)
      exact Fin.of rfl
    · simp at g; omega
  · have t2 : 0 ≤ t % 60 ∧ t % 60 < 60 := by omega
    refine ⟨s.tmod 1000, 1 + t % 60, by omega, by omega, ?_⟩
    obtain ⟨k1, k2⟩ := outs_c (s.tmod 1000) (1 + t % 60) (by omega) (by omega)
    generalize Rat.divInt (s.tmod 1000) (1 + t % 60) = x at *
    unfold frT at *
    refine called_of_run tbOk 6 ⟨Tryz.func40, rfl, rfl, Nat.le_of_ble_eq_true rfl⟩ ?_
    (conv => whnf)
    refine V.st ?_
    repeat ((try ((with_reducible refine .ext ?_); (conv => whnf))); (with_reducible refine call_intro (r := ?_) ?_ ?_); rotate_left; (focus (first | exact (h1) | exact (h2))); (conv => whnf); refine V.st ?_)
    refine Cnd.split (CondB.mk (fun g => ?_) (fun g => ?_))
    · simp at g; omega
    · (conv => whnf)
      refine V.st ?_
      repeat ((try ((with_reducible refine .ext ?_); (conv => whnf))); (with_reducible refine call_intro (r := ?_) ?_ ?_); rotate_left; (focus (first | exact (h1) | exact (k1) | exact (k2))); (conv => whnf); refine V.st ?_)
      exact Fin.of rfl
end Go.Proofs.YtplflfnfodghmaaGreatDoor
end
section
/-! drafted fractions: Unit -/
set_option linter.unusedSimpArgs false
set_option linter.unusedVariables false
set_option maxHeartbeats 8000000
set_option maxRecDepth 100000
namespace Go.Proofs.YtplflfnfodghmaaGreatDoor
open Go Go.V Go.Nb
theorem dunit_c (b : Bool) (xs : List Int) (z : Int) (b2 : Bool) (xs2 : List Int) (z2 : Int) : ∃ n m : Int, (0 ≤ n ∧ n ≤ 65535) ∧ (1 ≤ m ∧ m ≤ 65535) ∧
    Called Tryz.prog 41 [.agg [.bool b, .ints .u16 xs, .int .u16 z, .bool b2, .ints .u16 xs2, .int .u16 z2]] (frT (Rat.divInt n m)) := by
  have h1 := dsmall_c b xs z
  have h2 := dsmall_c b2 xs2 z2
  have e1 := smZ_b b xs
  have e2 := smZ_b b2 xs2
  generalize smZ b xs = s at *
  generalize smZ b2 xs2 = t at *
  by_cases hs : s < 0
  · by_cases ht : t < 0
    · refine ⟨(0 - s) % 65536, 65535, by omega, by omega, ?_⟩
      obtain ⟨k1, k2⟩ := outs_c ((0 - s) % 65536) (65535) (by omega) (by omega)
      generalize Rat.divInt ((0 - s) % 65536) (65535) = x at *
      unfold frT at *
      refine called_of_run tbOk 6 ⟨Tryz.func41, rfl, rfl, Nat.le_of_ble_eq_true rfl⟩ ?_
      (conv => whnf)
      refine V.st ?_
      refine ⟨(.take 0 (.take 1 (.take 3 (.take 4 (.ev (.cons 2 [4, 3] (.ev (.cons 5 [] (.take 6 (.take 7 (.done))) (.nil))) (.nil))))))), ⟨by kernel_rfl, by kernel_rfl, by kernel_rfl⟩, ?_⟩
      refine drw_meet [(3, .int .i64 s), (4, .int .i64 t)] [] ?_ ?_
      · (conv => whnf); (try simp only [Nat.zero_add])
        repeat' (first | exact V.wk | (refine V.s1 ?_; (try simp only [Nat.zero_add])) | ((with_reducible refine recheck_and ?_ ?_); (focus ((conv => whnf); (try simp only [Nat.zero_add]); (repeat (refine V.s1 ?_; (try simp only [Nat.zero_add]))); exact ⟨rfl⟩)); (conv => whnf); (try simp only [Nat.zero_add])) | ((try ((with_reducible refine .ext ?_); (conv => whnf); (try simp only [Nat.zero_add]))); (with_reducible refine call_intro (r := ?_) ?_ ?_); rotate_left; (focus (first | exact (h1) | exact (h2))); (conv => whnf); (try simp only [Nat.zero_add])) | (refine And.intro ?_ ?_ <;> (conv => whnf); (try simp only [Nat.zero_add])))
      (conv => whnf)
      refine V.st ?_
      refine Cnd.split (CondB.mk (fun g => ?_) (fun g => ?_))
      · (conv => whnf)
        refine V.st ?_
        refine Cnd.split (CondB.mk (fun g2 => ?_) (fun g2 => ?_))
        · (conv => whnf)
          refine V.st ?_
          repeat ((try ((with_reducible refine .ext ?_); (conv => whnf))); (with_reducible refine call_intro (r := ?_) ?_ ?_); rotate_left; (focus (first | exact (k1) | exact (k2))); (conv => whnf); refine V.st ?_)
          exact Fin.of rfl
        · simp at g2; omega
      · simp at g; omega
    · have t2 : 0 ≤ t % 60 ∧ t % 60 < 60 := by omega
      have t3 : 0 ≤ (0 - s) % (1 + t % 60 + 1) ∧ (0 - s) % (1 + t % 60 + 1) < 1 + t % 60 + 1 := ⟨Int.emod_nonneg _ (by omega), Int.emod_lt_of_pos _ (by omega)⟩
      refine ⟨(0 - s) % (1 + t % 60 + 1), 1 + t % 60, by omega, by omega, ?_⟩
      obtain ⟨k1, k2⟩ := outs_c ((0 - s) % (1 + t % 60 + 1)) (1 + t % 60) (by omega) (by omega)
      generalize Rat.divInt ((0 - s) % (1 + t % 60 + 1)) (1 + t % 60) = x at *
      unfold frT at *
      refine called_of_run tbOk 6 ⟨Tryz.func41, rfl, rfl, Nat.le_of_ble_eq_true rfl⟩ ?_
      (conv => whnf)
      refine V.st ?_
      refine ⟨(.take 0 (.take 1 (.take 3 (.take 4 (.ev (.cons 2 [4, 3] (.ev (.cons 5 [] (.take 6 (.take 7 (.done))) (.nil))) (.nil))))))), ⟨by kernel_rfl, by kernel_rfl, by kernel_rfl⟩, ?_⟩
      refine drw_meet [(3, .int .i64 s), (4, .int .i64 t)] [] ?_ ?_
      · (conv => whnf); (try simp only [Nat.zero_add])
        repeat' (first | exact V.wk | (refine V.s1 ?_; (try simp only [Nat.zero_add])) | ((with_reducible refine recheck_and ?_ ?_); (focus ((conv => whnf); (try simp only [Nat.zero_add]); (repeat (refine V.s1 ?_; (try simp only [Nat.zero_add]))); exact ⟨rfl⟩)); (conv => whnf); (try simp only [Nat.zero_add])) | ((try ((with_reducible refine .ext ?_); (conv => whnf); (try simp only [Nat.zero_add]))); (with_reducible refine call_intro (r := ?_) ?_ ?_); rotate_left; (focus (first | exact (h1) | exact (h2))); (conv => whnf); (try simp only [Nat.zero_add])) | (refine And.intro ?_ ?_ <;> (conv => whnf); (try simp only [Nat.zero_add])))
      (conv => whnf)
      refine V.st ?_
      refine Cnd.split (CondB.mk (fun g => ?_) (fun g => ?_))
      · (conv => whnf)
        refine V.st ?_
        refine Cnd.split (CondB.mk (fun g2 => ?_) (fun g2 => ?_))
        · simp at g2; omega
        · (conv => whnf)
          refine V.st ?_
          repeat ((try ((with_reducible refine .ext ?_); (conv => whnf))); (with_reducible refine call_intro (r := ?_) ?_ ?_); rotate_left; (focus (first | exact (k1) | exact (k2))); (conv => whnf); refine V.st ?_)
          exact Fin.of rfl
      · simp at g; omega
  · by_cases ht : t < 0
    · refine ⟨s % 65536, 65535, by omega, by omega, ?_⟩
      obtain ⟨k1, k2⟩ := outs_c (s % 65536) (65535) (by omega) (by omega)
      generalize Rat.divInt (s % 65536) (65535) = x at *
      unfold frT at *
      refine called_of_run tbOk 6 ⟨Tryz.func41, rfl, rfl, Nat.le_of_ble_eq_true rfl⟩ ?_
      (conv => whnf)
      refine V.st ?_
      refine ⟨(.take 0 (.take 1 (.take 3 (.take 4 (.ev (.cons 2 [4, 3] (.ev (.cons 5 [] (.take 6 (.take 7 (.done))) (.nil))) (.nil))))))), ⟨by kernel_rfl, by kernel_rfl, by kernel_rfl⟩, ?_⟩
      refine drw_meet [(3, .int .i64 s), (4, .int .i64 t)] [] ?_ ?_
      · (conv => whnf); (try simp only [Nat.zero_add])
        repeat' (first | exact V.wk | (refine V.s1 ?_; (try simp only [Nat.zero_add])) | ((with_reducible refine recheck_and ?_ ?_); (focus ((conv => whnf); (try simp only [Nat.zero_add]); (repeat (refine V.s1 ?_; (try simp only [Nat.zero_add]))); exact ⟨rfl⟩)); (conv => whnf); (try simp only [Nat.zero_add])) | ((try ((with_reducible refine .ext ?_); (conv => whnf); (try simp only [Nat.zero_add]))); (with_reducible refine call_intro (r := ?_) ?_ ?_); rotate_left; (focus (first | exact (h1) | exact (h2))); (conv => whnf); (try simp only [Nat.zero_add])) | (refine And.intro ?_ ?_ <;> (conv => whnf); (try simp only [Nat.zero_add])))
      (conv => whnf)
      refine V.st ?_
      refine Cnd.split (CondB.mk (fun g => ?_) (fun g => ?_))
      · simp at g; omega
      · (conv => whnf)
        refine V.st ?_
        refine Cnd.split (CondB.mk (fun g2 => ?_) (fun g2 => ?_))
        · (conv => whnf)
          refine V.st ?_
          repeat ((try ((with_reducible refine .ext ?_); (conv => whnf))); (with_reducible refine call_intro (r := ?_) ?_ ?_); rotate_left; (focus (first | exact (k1) | exact (k2))); (conv => whnf); refine V.st ?_)
          exact Fin.of rfl
        · simp at g2; omega
    · have t2 : 0 ≤ t % 60 ∧ t % 60 < 60 := by omega
      have t3 : 0 ≤ s % (1 + t % 60 + 1) ∧ s % (1 + t % 60 + 1) < 1 + t % 60 + 1 := ⟨Int.emod_nonneg _ (by omega), Int.emod_lt_of_pos _ (by omega)⟩
      refine ⟨s % (1 + t % 60 + 1), 1 + t % 60, by omega, by omega, ?_⟩
      obtain ⟨k1, k2⟩ := outs_c (s % (1 + t % 60 + 1)) (1 + t % 60) (by omega) (by omega)
      generalize Rat.divInt (s % (1 + t % 60 + 1)) (1 + t % 60) = x at *
      unfold frT at *
      refine called_of_run tbOk 6 ⟨Tryz.func41, rfl, rfl, Nat.le_of_ble_eq_true rfl⟩ ?_
      (conv => whnf)
      refine V.st ?_
      refine ⟨(.take 0 (.take 1 (.take 3 (.take 4 (.ev (.cons 2 [4, 3] (.ev (.cons 5 [] (.take 6 (.take 7 (.done))) (.nil))) (.nil))))))), ⟨by kernel_rfl, by kernel_rfl, by kernel_rfl⟩, ?_⟩
      refine drw_meet [(3, .int .i64 s), (4, .int .i64 t)] [] ?_ ?_
      · (conv => whnf); (try simp only [Nat.zero_add])
        repeat' (first | exact V.wk | (refine V.s1 ?_; (try simp only [Nat.zero_add])) | ((with_reducible refine recheck_and ?_ ?_); (focus ((conv => whnf); (try simp only [Nat.zero_add]); (repeat (refine V.s1 ?_; (try simp only [Nat.zero_add]))); exact ⟨rfl⟩)); (conv => whnf); (try simp only [Nat.zero_add])) | ((try ((with_reducible refine .ext ?_); (conv => whnf); (try simp only [Nat.zero_add]))); (with_reducible refine call_intro (r := ?_) ?_ ?_); rotate_left; (focus (first | exact (h1) | exact (h2))); (conv => whnf); (try simp only [Nat.zero_add])) | (refine And.intro ?_ ?_ <;> (conv => whnf); (try simp only [Nat.zero_add])))
      (conv => whnf)
      refine V.st ?_
      refine Cnd.split (CondB.mk (fun g => ?_) (fun g => ?_))
      · simp at g; omega
      · (conv => whnf)
        refine V.st ?_
        refine Cnd.split (CondB.mk (fun g2 => ?_) (fun g2 => ?_))
        · simp at g2; omega
        · (conv => whnf)
          refine V.st ?_
          repeat ((try ((with_reducible refine .ext ?_); (conv => whnf))); (with_reducible refine call_intro (r := ?_) ?_ ?_); rotate_left; (focus (first | exact (k1) | exact (k2))); (conv => whnf); refine V.st ?_)
          exact Fin.of rfl
end Go.Proofs.YtplflfnfodghmaaGreatDoor
end
section
/-! Has; plain laws of the band around a fraction -/
set_option linter.unusedSimpArgs false
set_option linter.unusedVariables false
set_option maxHeartbeats 8000000
set_option maxRecDepth 100000
namespace Go.Proofs.YtplflfnfodghmaaGreatDoor
open Go Go.V Go.Nb
/-- whether a number lies in a band -/
def hasR (x : Rat) (p q : Int) : Bool := decide (ordQ x (unit p) ≥ 0) && decide (ordQ x (unit q) ≤ 0)
theorem has_ok (p q : Int) (s t : List UInt8) (hv : vb p q = true) (h : okP s t = true) : Called Tryz.prog 44 [bA p q, .agg [.str s, .str t]] (.tup [.bool (hasR (qv s t) p q), .int .i64 0]) := by
  have hb := vb_iff.1 hv
  have e1 := end_c p (by omega)
  have e2 := end_c q (by omega)
  obtain ⟨o1, p1⟩ := okP_dec (okF_unit p (by omega))
  obtain ⟨o2, p2⟩ := okP_dec (okF_unit q (by omega))
  have c1 := fcmp_ok s t (decZ (unit p).num) (dec (unit p).den) h o1
  have c2 := fcmp_ok s t (decZ (unit q).num) (dec (unit q).den) h o2
  rw [show qv (decZ (unit p).num) (dec (unit p).den) = unit p from p1] at c1
  rw [show qv (decZ (unit q).num) (dec (unit q).den) = unit q from p2] at c2
  clear o1 p1 o2 p2
  unfold hasR
  generalize ordQ (qv s t) (unit p) = x1 at *
  generalize ordQ (qv s t) (unit q) = x2 at *
  have f1 : fD (unF p) = .tup [.agg [.str (decZ (unit p).num), .str (dec (unit p).den)], .int .i64 0] := rfl
  have f2 : fD (unF q) = .tup [.agg [.str (decZ (unit q).num), .str (dec (unit q).den)], .int .i64 0] := rfl
  rw [f1] at e1
  rw [f2] at e2
  clear f1 f2
  generalize decZ (unit p).num = a1 at *
  generalize dec (unit p).den = b1 at *
  generalize decZ (unit q).num = a2 at *
  generalize dec (unit q).den = b2 at *
  have hc : Called Tryz.prog 105 [.ref [.int .i64 p, .int .i64 q], .ref [.str s, .str t]] (.tup [.bool (decide (x1 ≥ 0) && decide (x2 ≤ 0)), .int .i64 0]) := by
    refine called_of_run tbOk 6 ⟨Tryz.func105, rfl, rfl, Nat.le_of_ble_eq_true rfl⟩ ?_
    (conv => whnf)
    refine V.st ?_
    repeat ((try ((with_reducible refine .ext ?_); (conv => whnf))); (with_reducible refine call_intro (r := ?_) ?_ ?_); rotate_left; (focus (first | exact (e1) | exact (e2) | exact (c1) | exact (c2))); (conv => whnf); refine V.st ?_)
    exact Fin.of rfl
  have hk := cko1_ok 105 p q s t (decide (x1 ≥ 0) && decide (x2 ≤ 0)) 0 1 (l1 p q) (fun _ => p) (fun _ => q) (l1_c p q) (by omega) (fun _ _ => hv) hc
  refine called_of_run tbOk 6 ⟨Tryz.func44, rfl, rfl, Nat.le_of_ble_eq_true rfl⟩ ?_
  (conv => whnf)
  refine V.st ?_
  repeat ((try ((with_reducible refine .ext ?_); (conv => whnf))); (with_reducible refine call_intro (r := ?_) ?_ ?_); rotate_left; (focus (first | exact (hk))); (conv => whnf); refine V.st ?_)
  exact Fin.of rfl
theorem has_no (p q : Int) (s t : List UInt8) (hv : ¬ vb p q = true) : Called Tryz.prog 44 [bA p q, .agg [.str s, .str t]] (.tup [.bool false, .int .i64 30]) := by
  have hk := cko1_no 105 p q s t false 0 1 (l1 p q) (fun _ => p) (fun _ => q) (l1_c p q) (by omega) (one_no hv)
  refine called_of_run tbOk 6 ⟨Tryz.func44, rfl, rfl, Nat.le_of_ble_eq_true rfl⟩ ?_
  (conv => whnf)
  refine V.st ?_
  repeat ((try ((with_reducible refine .ext ?_); (conv => whnf))); (with_reducible refine call_intro (r := ?_) ?_ ?_); rotate_left; (focus (first | exact (hk))); (conv => whnf); refine V.st ?_)
  exact Fin.of rfl
/-! plain laws -/
theorem divInt_cross (n d : Int) (hd : 0 < d) : (Rat.divInt n d).num * d = n * ((Rat.divInt n d).den : Int) := by
  have h := (Rat.divInt n d).den_pos
  rw [← Rat.divInt_eq_divInt_iff (by omega) (by omega), Rat.num_divInt_den]
theorem divInt_lt' (n d : Int) (hd : 0 < d) (x : Rat) : Rat.divInt n d < x ↔ n * x.den < x.num * d := by
  have e := divInt_cross n d hd
  have hb : (0 : Int) < ((Rat.divInt n d).den : Int) := by have := (Rat.divInt n d).den_pos; omega
  rw [Rat.lt_iff]
  generalize (Rat.divInt n d).num = a at *
  generalize ((Rat.divInt n d).den : Int) = b at *
  have e1 : a * x.den * d = n * x.den * b := by
    rw [Int.mul_right_comm, e, Int.mul_right_comm]
  have e2 : x.num * b * d = x.num * d * b := by rw [Int.mul_right_comm]
  constructor
  · intro h
    have := Int.mul_lt_mul_of_pos_right h hd
    rw [e1, e2] at this
    exact Int.lt_of_mul_lt_mul_right this (by omega)
  · intro h
    have := Int.mul_lt_mul_of_pos_right h hb
    rw [← e1, ← e2] at this
    exact Int.lt_of_mul_lt_mul_right this (by omega)
theorem divInt_eq' (n d : Int) (hd : 0 < d) (x : Rat) : x = Rat.divInt n d ↔ x.num * d = n * x.den := by
  have hp := x.den_pos
  conv => lhs; rw [← Rat.num_divInt_den x]
  exact Rat.divInt_eq_divInt_iff (by omega) (by omega)
theorem ord_ge (x y : Rat) : ordQ x y ≥ 0 ↔ ¬ x < y := by
  have := ordQ_lt (x := x) (y := y)
  constructor
  · intro h h2; have := this.2 h2; omega
  · intro h
    rcases Int.lt_or_le (ordQ x y) 0 with h2 | h2
    · exact absurd (this.1 h2) h
    · exact h2
theorem ord_le (x y : Rat) : ordQ x y ≤ 0 ↔ ¬ y < x := by
  have := ordQ_gt (x := x) (y := y)
  constructor
  · intro h h2; have := this.2 h2; omega
  · intro h
    rcases Int.lt_or_le 0 (ordQ x y) with h2 | h2
    · exact absurd (this.1 h2) h
    · exact h2
/-- where a number lies among the units: twice its value in units, by its denominator -/
theorem unit_lt (m : Int) (x : Rat) : unit m < x ↔ m * x.den < x.num * 1000000000000 := divInt_lt' m _ (by decide) x
theorem unit_eq (m : Int) (x : Rat) : x = unit m ↔ x.num * 1000000000000 = m * x.den := divInt_eq' m _ (by decide) x
theorem lt_unit (m : Int) (x : Rat) : x < unit m ↔ x.num * 1000000000000 < m * x.den := by
  have h1 := unit_lt m x
  have h2 := unit_eq m x
  constructor
  · intro h
    have a1 : ¬ unit m < x := Rat.not_lt.2 (Rat.le_of_lt h)
    have a2 : ¬ x = unit m := Rat.ne_of_lt h
    rw [h1] at a1
    rw [h2] at a2
    omega
  · intro h
    have a1 : ¬ unit m < x := fun g => by have := h1.1 g; omega
    have a2 : ¬ x = unit m := fun g => by have := h2.1 g; omega
    exact Rat.lt_of_le_of_ne (Rat.not_lt.1 a1) a2
theorem has_iff (x : Rat) (p q : Int) : hasR x p q = true ↔ p * x.den ≤ x.num * 1000000000000 ∧ x.num * 1000000000000 ≤ q * x.den := by
  unfold hasR
  rw [Bool.and_eq_true, decide_eq_true_eq, decide_eq_true_eq, ord_ge, ord_le, lt_unit, unit_lt]
  omega
theorem near_bd (x : Rat) : 2 * (nearZ x 1000000000000 * x.den) ≤ 2 * (x.num * 1000000000000) + x.den ∧ 2 * (x.num * 1000000000000) + x.den < 2 * (nearZ x 1000000000000 * x.den) + 2 * x.den := by
  have hp := x.den_pos
  unfold nearZ
  have h1 := Int.emod_add_mul_ediv (x.num * ((1000000000000 * 2 : Nat) : Int) + x.den) ((x.den * 2 : Nat) : Int)
  have h2 := Int.emod_nonneg (x.num * ((1000000000000 * 2 : Nat) : Int) + x.den) (show ((x.den * 2 : Nat) : Int) ≠ 0 by omega)
  have h3 := Int.emod_lt_of_pos (x.num * ((1000000000000 * 2 : Nat) : Int) + x.den) (show 0 < ((x.den * 2 : Nat) : Int) by omega)
  generalize (x.num * ((1000000000000 * 2 : Nat) : Int) + x.den) % ((x.den * 2 : Nat) : Int) = r at *
  generalize (x.num * ((1000000000000 * 2 : Nat) : Int) + x.den) / ((x.den * 2 : Nat) : Int) = n at *
  have e : ((x.den * 2 : Nat) : Int) * n = 2 * (n * x.den) := by
    rw [show ((x.den * 2 : Nat) : Int) = 2 * (x.den : Int) by omega, Int.mul_assoc, Int.mul_comm (x.den : Int) n]
  rw [e] at h1
  generalize n * (x.den : Int) = y at *
  omega
/-- the nearest of a number of so many at most -/
theorem near_le (x : Rat) (K : Int) (h : -(K * x.den) ≤ x.num ∧ x.num ≤ K * x.den) : -(K * 1000000000000) - 1 ≤ nearZ x 1000000000000 ∧ nearZ x 1000000000000 ≤ K * 1000000000000 + 1 := by
  have hp := x.den_pos
  obtain ⟨b1, b2⟩ := near_bd x
  generalize nearZ x 1000000000000 = n at *
  have e : K * 1000000000000 * (x.den : Int) = 1000000000000 * (K * x.den) := by rw [Int.mul_right_comm, Int.mul_comm]
  constructor
  · rcases Int.lt_or_le n (-(K * 1000000000000) - 1) with g | g
    · exfalso
      have := Int.mul_le_mul_of_nonneg_right (show n ≤ -(K * 1000000000000) - 2 by omega) (show (0 : Int) ≤ x.den by omega)
      rw [Int.sub_mul, Int.neg_mul, e] at this
      omega
    · exact g
  · rcases Int.lt_or_le (K * 1000000000000 + 1) n with g | g
    · exfalso
      have := Int.mul_le_mul_of_nonneg_right (show K * 1000000000000 + 2 ≤ n by omega) (show (0 : Int) ≤ x.den by omega)
      rw [Int.add_mul, e] at this
      omega
    · exact g
theorem small_num (n m K : Int) (hn : -K ≤ n ∧ n ≤ K) (hm : 1 ≤ m) : -(K * ((Rat.divInt n m).den : Int)) ≤ (Rat.divInt n m).num ∧ (Rat.divInt n m).num ≤ K * ((Rat.divInt n m).den : Int) := by
  have e := divInt_cross n m (by omega)
  have hp := (Rat.divInt n m).den_pos
  generalize (Rat.divInt n m).num = a at *
  generalize (Rat.divInt n m).den = b at *
  have h1 := Int.mul_le_mul_of_nonneg_right hn.1 (show (0 : Int) ≤ b by omega)
  have h2 := Int.mul_le_mul_of_nonneg_right hn.2 (show (0 : Int) ≤ b by omega)
  rw [Int.neg_mul] at h1
  rw [← e] at h1 h2
  have hK : 0 ≤ K * (b : Int) := Int.mul_nonneg (by omega) (by omega)
  generalize K * (b : Int) = k at *
  constructor
  · rcases Int.lt_or_le a 0 with g | g
    · have := Int.mul_le_mul_of_nonpos_left (show a ≤ 0 by omega) (show (1 : Int) ≤ m from hm)
      omega
    · omega
  · rcases Int.lt_or_le a 0 with g | g
    · omega
    · have := Int.mul_le_mul_of_nonneg_left (show (1 : Int) ≤ m from hm) (show 0 ≤ a by omega)
      omega
/-- what a band around a number is -/
theorem around_law (x : Rat) (h : -999999999999999999 ≤ nearZ x 1000000000000 ∧ nearZ x 1000000000000 ≤ 999999999999999999) :
    ∃ p q, aroundR x = (p, q, 0) ∧ vb p q = true ∧ q - p ≤ 1 ∧ hasR x p q = true ∧ (p = q ↔ unit p = x) := by
  have hp := x.den_pos
  obtain ⟨b1, b2⟩ := near_bd x
  unfold aroundR
  rw [if_pos (vb_iff.2 (by omega))]
  generalize nearZ x 1000000000000 = n at *
  have l1 := lt_unit n x
  have l2 := unit_lt n x
  have e1 : (n + -1) * (x.den : Int) = n * x.den - x.den := by rw [Int.add_mul]; omega
  have e2 : (n + 1) * (x.den : Int) = n * x.den + x.den := by rw [Int.add_mul]; omega
  by_cases g1 : x < unit n
  · have o : ordQ x (unit n) = -1 := by unfold ordQ; rw [if_pos g1]
    rw [o, show min (-1 : Int) 0 = -1 from rfl, show max (-1 : Int) 0 = 0 from rfl, mk_ok (by omega), Int.add_zero]
    have := l1.1 g1
    refine ⟨_, _, rfl, vb_iff.2 (by omega), by omega, (has_iff _ _ _).2 (by rw [e1]; omega), ⟨fun h => by omega, fun h => ?_⟩⟩
    have := (unit_eq (n + -1) x).1 h.symm
    rw [e1] at this
    omega
  · by_cases g2 : x = unit n
    · have o : ordQ x (unit n) = 0 := by unfold ordQ; rw [if_neg g1, if_pos g2]
      rw [o, show min (0 : Int) 0 = 0 from rfl, show max (0 : Int) 0 = 0 from rfl, mk_ok (by omega), Int.add_zero]
      have := (unit_eq n x).1 g2
      exact ⟨_, _, rfl, vb_iff.2 (by omega), by omega, (has_iff _ _ _).2 (by omega), ⟨fun _ => g2.symm, fun _ => rfl⟩⟩
    · have o : ordQ x (unit n) = 1 := by unfold ordQ; rw [if_neg g1, if_neg g2]
      rw [o, show min (1 : Int) 0 = 0 from rfl, show max (1 : Int) 0 = 1 from rfl, mk_ok (by omega), Int.add_zero]
      have h3 : unit n < x := Rat.lt_of_le_of_ne (Rat.not_lt.1 g1) (Ne.symm g2)
      have := l2.1 h3
      exact ⟨_, _, rfl, vb_iff.2 (by omega), by omega, (has_iff _ _ _).2 (by rw [e2]; omega), ⟨fun h => by omega, fun h => absurd h.symm g2⟩⟩
theorem near_unit (m : Int) : nearZ (unit m) 1000000000000 = m := by
  obtain ⟨b1, b2⟩ := near_bd (unit m)
  have h := (unit_eq m (unit m)).1 rfl
  have hp := (unit m).den_pos
  generalize nearZ (unit m) 1000000000000 = n at *
  rw [h] at b1 b2
  generalize (unit m).den = d at *
  rcases Int.lt_trichotomy n m with g | g | g
  · exfalso
    have := Int.mul_le_mul_of_nonneg_right (show n + 1 ≤ m by omega) (show (0 : Int) ≤ d by omega)
    rw [Int.add_mul] at this
    omega
  · exact g
  · exfalso
    have := Int.mul_le_mul_of_nonneg_right (show m + 1 ≤ n by omega) (show (0 : Int) ≤ d by omega)
    rw [Int.add_mul] at this
    omega
theorem around_unit (m : Int) (h : vb m m = true) : aroundR (unit m) = (m, m, 0) := by
  unfold aroundR
  rw [near_unit, if_pos h, show ordQ (unit m) (unit m) = 0 by unfold ordQ; rw [if_neg Rat.lt_irrefl, if_pos rfl]]
  rw [show min (0 : Int) 0 = 0 from rfl, show max (0 : Int) 0 = 0 from rfl, Int.add_zero]
  unfold mk
  rw [if_pos h]
/-- the texts of fractions tell them -/
theorem txt_inj {x y : Rat} (h1 : decZ x.num = decZ y.num) (h2 : dec x.den = dec y.den) : x = y := by
  have e1 : x.num = y.num := by rw [← wval_decZ x.num, h1, wval_decZ]
  have e2 : x.den = y.den := by rw [← rdv_dec x.den, h2, rdv_dec]
  exact Rat.ext e1 e2
end Go.Proofs.YtplflfnfodghmaaGreatDoor
end
section
/-! law BandAround -/
set_option linter.unusedSimpArgs false
set_option linter.unusedVariables false
set_option maxHeartbeats 8000000
set_option maxRecDepth 100000
namespace Go.Proofs.YtplflfnfodghmaaGreatDoor
open Go Go.V Go.Nb
theorem arnd_of (x : Rat) (ho : okF x = true) (hn : -999999999999999999 ≤ nearZ x 1000000000000 ∧ nearZ x 1000000000000 ≤ 999999999999999999) :
    ∃ p q : Int, ∃ l1 l2 : List UInt8, Called Tryz.prog 42 [frT x] (.tup [.agg [.int .i64 p, .int .i64 q], .int .i64 0]) ∧ Called Tryz.prog 44 [bA p q, frT x] (.tup [.bool true, .int .i64 0]) ∧
      Called Tryz.prog 20 [bA p q] (.tup [.agg [.str l1, .str l2], .int .i64 0]) ∧ (-1000000000000000000 ≤ p ∧ p ≤ q ∧ q ≤ 1000000000000000000) ∧ q - p ≤ 1 ∧ (p = q ↔ l1 = decZ x.num ∧ l2 = dec x.den) := by
  obtain ⟨o1, o2⟩ := okP_dec ho
  obtain ⟨p, q, e1, hv, e2, e3, e4⟩ := around_law x hn
  have a1 := around_b (decZ x.num) (dec x.den) o1 (by rw [o2]; omega)
  rw [o2, e1] at a1
  have h1 := has_ok p q (decZ x.num) (dec x.den) hv o1
  rw [o2, e3] at h1
  have l1 := low_b p q
  rw [if_pos hv] at l1
  refine ⟨p, q, decZ (unit p).num, dec (unit p).den, a1, h1, l1, vb_iff.1 hv, e2, e4.trans ⟨fun h => by rw [h]; exact ⟨rfl, rfl⟩, fun h => txt_inj h.1 h.2⟩⟩
theorem ends_of (p q : Int) (hv : vb p q = true) : ∃ l1 l2 h1 h2 : List UInt8, Called Tryz.prog 20 [bA p q] (.tup [.agg [.str l1, .str l2], .int .i64 0]) ∧ Called Tryz.prog 22 [bA p q] (.tup [.agg [.str h1, .str h2], .int .i64 0]) ∧
    Called Tryz.prog 42 [.agg [.str l1, .str l2]] (.tup [.agg [.int .i64 p, .int .i64 p], .int .i64 0]) ∧ Called Tryz.prog 42 [.agg [.str h1, .str h2]] (.tup [.agg [.int .i64 q, .int .i64 q], .int .i64 0]) := by
  have hb := vb_iff.1 hv
  have l1 := low_b p q
  have h1 := high_b p q
  rw [if_pos hv] at l1 h1
  obtain ⟨o1, o2⟩ := okP_dec (okF_unit p (by omega))
  obtain ⟨o3, o4⟩ := okP_dec (okF_unit q (by omega))
  have o2 : qv (decZ (unit p).num) (dec (unit p).den) = unit p := o2
  have o4 : qv (decZ (unit q).num) (dec (unit q).den) = unit q := o4
  have a1 := around_b (decZ (unit p).num) (dec (unit p).den) o1 (by rw [o2, near_unit]; omega)
  have a2 := around_b (decZ (unit q).num) (dec (unit q).den) o3 (by rw [o4, near_unit]; omega)
  rw [o2, around_unit p (vb_iff.2 (by omega))] at a1
  rw [o4, around_unit q (vb_iff.2 (by omega))] at a2
  exact ⟨_, _, _, _, l1, h1, a1, a2⟩
theorem bandAround_c (b : Bool) (xs : List Int) (z : Int) (b2 : Bool) (xs2 : List Int) (z2 : Int) (a w : Int) (hw : 0 ≤ w ∧ w ≤ 4294967295) :
    Called Tryz.prog 6 [.agg [.bool b, .ints .u16 xs, .int .u16 z, .bool b2, .ints .u16 xs2, .int .u16 z2], .agg [.int .i64 a, .int .u32 w]] (.bool true) := by
  have c0 := works_c
  obtain ⟨n, m, hn, hm, s1⟩ := dshort_c b xs z b2 xs2 z2
  obtain ⟨n2, m2, hn2, hm2, s2⟩ := dunit_c b xs z b2 xs2 z2
  have nl1 := near_le (Rat.divInt n m) 999 (small_num n m 999 (by omega) hm.1)
  have nl2 := near_le (Rat.divInt n2 m2) 65535 (small_num n2 m2 65535 (by omega) hm2.1)
  obtain ⟨p1, q1, l1, k1, a1, h1, w1, v1, d1, e1⟩ := arnd_of (Rat.divInt n m) (out_small n m (by omega) (by omega)) (by omega)
  obtain ⟨p2, q2, l2, k2, a2, h2, w2, v2, d2, e2⟩ := arnd_of (Rat.divInt n2 m2) (out_small n2 m2 (by omega) (by omega)) (by omega)
  have c1 := bandD_c a w hw
  have hv := bn_vb a w hw.1
  generalize bnL a = p at *
  generalize bnH a w = q at *
  obtain ⟨t1, t2, t3, t4, x1, x2, x3, x4⟩ := ends_of p q hv
  have hb := vb_iff.1 hv
  have g1 := b_c p p
  have g2 := b_c q q
  unfold frT at *
  unfold bA at g1 g2 c1
  generalize decZ (Rat.divInt n m).num = s at *
  generalize dec (Rat.divInt n m).den = t at *
  generalize decZ (Rat.divInt n2 m2).num = s' at *
  generalize dec (Rat.divInt n2 m2).den = t' at *
  clear nl1 nl2 hn hm hn2 hm2 hv
  refine called_of_run tbOk 6 ⟨Tryz.func6, rfl, rfl, Nat.le_of_ble_eq_true rfl⟩ ?_
  (conv => whnf)
  refine V.st ?_
  repeat ((try ((with_reducible refine .ext ?_); (conv => whnf))); (with_reducible refine call_intro (r := ?_) ?_ ?_); rotate_left; (focus (first | exact (c0))); (conv => whnf); refine V.st ?_)
  refine ⟨(.take 0 (.take 2 (.take 5 (.ev (.cons 1 [5, 2] (.ev (.cons 3 [5] (.take 4 (.done)) (.nil))) (.nil)))))), ⟨by kernel_rfl, by kernel_rfl, by kernel_rfl⟩, ?_⟩
  refine drw_meet [(28, .agg [.str s, .str t, .str s', .str t']), (29, .int .i64 0)] [] ?_ ?_
  · (conv => whnf); (try simp only [Nat.zero_add])
    repeat' (first | exact V.wk | (refine V.s1 ?_; (try simp only [Nat.zero_add])) | ((with_reducible refine recheck_and ?_ ?_); (focus ((conv => whnf); (try simp only [Nat.zero_add]); (repeat (refine V.s1 ?_; (try simp only [Nat.zero_add]))); exact ⟨rfl⟩)); (conv => whnf); (try simp only [Nat.zero_add])) | ((try ((with_reducible refine .ext ?_); (conv => whnf); (try simp only [Nat.zero_add]))); (with_reducible refine call_intro (r := ?_) ?_ ?_); rotate_left; (focus (first | exact (s1) | exact (s2))); (conv => whnf); (try simp only [Nat.zero_add])) | (refine And.intro ?_ ?_ <;> (conv => whnf); (try simp only [Nat.zero_add])))
  (conv => whnf)
  refine V.st ?_
  refine lp_any (0 : Nat) (fun k => k ≤ 2) (fun k => 2 - k) (fun k => [(29, .int .i64 k)]) (fun _ => []) ?_ ?_ ?_
  · exact V.wk
  · exact Nat.zero_le _
  intro k hk
  clear c0 s1 s2
  rcases (by omega : k = 0 ∨ k = 1 ∨ k = 2) with e | e | e
  · subst e
    (conv => whnf)
    refine V.st ?_
    repeat ((try ((with_reducible refine .ext ?_); (conv => whnf))); (with_reducible refine call_intro (r := ?_) ?_ ?_); rotate_left; (focus (first | exact (a1) | exact (h1) | exact (w1))); (conv => whnf); refine V.st ?_)
    refine ⟨(.take 0 (.take 1 (.take 2 (.take 3 (.take 4 (.take 5 (.take 6 (.take 7 (.take 8 (.take 9 (.take 10 (.take 11 (.take 12 (.take 13 (.take 14 (.take 15 (.take 16 (.take 17 (.take 18 (.take 19 (.take 20 (.take 21 (.take 22 (.take 23 (.take 24 (.take 25 (.take 26 (.take 27 (.take 28 (.take 29 (.take 30 (.take 31 (.take 32 (.done)))))))))))))))))))))))))))))))))), ⟨by kernel_rfl, by kernel_rfl, by kernel_rfl⟩, .go ?_⟩
    (conv => whnf)
    refine V.st ?_
    refine Cnd.split (CondB.mk (fun g => ?_) (fun g => ?_))
    · exfalso
      have hx : decide (p1 = q1) = (decide (l1 = s) && (decide (k1 = t) && true)) := by
        rw [Bool.and_true, Bool.eq_iff_iff, decide_eq_true_eq, Bool.and_eq_true, decide_eq_true_eq, decide_eq_true_eq]; exact e1
      rw [hx, decide_eq_false (show ¬ (q1 - p1 > 1) by omega)] at g
      simp at g
    · (conv => whnf)
      refine V.st ?_
      exact ⟨1, by omega, by omega, V.wk⟩
  · subst e
    (conv => whnf)
    refine V.st ?_
    repeat ((try ((with_reducible refine .ext ?_); (conv => whnf))); (with_reducible refine call_intro (r := ?_) ?_ ?_); rotate_left; (focus (first | exact (a2) | exact (h2) | exact (w2))); (conv => whnf); refine V.st ?_)
    refine ⟨(.take 0 (.take 1 (.take 2 (.take 3 (.take 4 (.take 5 (.take 6 (.take 7 (.take 8 (.take 9 (.take 10 (.take 11 (.take 12 (.take 13 (.take 14 (.take 15 (.take 16 (.take 17 (.take 18 (.take 19 (.take 20 (.take 21 (.take 22 (.take 23 (.take 24 (.take 25 (.take 26 (.take 27 (.take 28 (.take 29 (.take 30 (.take 31 (.take 32 (.done)))))))))))))))))))))))))))))))))), ⟨by kernel_rfl, by kernel_rfl, by kernel_rfl⟩, .go ?_⟩
    (conv => whnf)
    refine V.st ?_
    refine Cnd.split (CondB.mk (fun g => ?_) (fun g => ?_))
    · exfalso
      have hx : decide (p2 = q2) = (decide (l2 = s') && (decide (k2 = t') && true)) := by
        rw [Bool.and_true, Bool.eq_iff_iff, decide_eq_true_eq, Bool.and_eq_true, decide_eq_true_eq, decide_eq_true_eq]; exact e2
      rw [hx, decide_eq_false (show ¬ (q2 - p2 > 1) by omega)] at g
      simp at g
    · (conv => whnf)
      refine V.st ?_
      exact ⟨2, by omega, by omega, V.wk⟩
  · subst e
    (conv => whnf)
    refine V.st ?_
    repeat ((try ((with_reducible refine .ext ?_); (conv => whnf))); (with_reducible refine call_intro (r := ?_) ?_ ?_); rotate_left; (focus (first | exact (c1) | exact (x1) | exact (x2) | exact (x3) | exact (x4))); (conv => whnf); refine V.st ?_)
    refine ⟨(.take 0 (.take 1 (.take 2 (.take 3 (.take 4 (.take 5 (.take 6 (.take 7 (.take 8 (.take 9 (.take 10 (.take 11 (.take 12 (.take 13 (.take 14 (.take 15 (.take 16 (.take 17 (.take 18 (.take 19 (.ev (.cons 20 [15] (.take 21 (.take 22 (.take 23 (.take 24 (.take 25 (.take 26 (.take 27 (.take 28 (.ev (.cons 29 [24] (.take 30 (.take 31 (.take 32 (.done)))) (.nil))))))))))) (.nil))))))))))))))))))))))), ⟨by kernel_rfl, by kernel_rfl, by kernel_rfl⟩, .go ?_⟩
    (conv => whnf)
    refine V.st ?_
    repeat ((try ((with_reducible refine .ext ?_); (conv => whnf))); (with_reducible refine call_intro (r := ?_) ?_ ?_); rotate_left; (focus (first | exact (g1) | exact (g2))); (conv => whnf); refine V.st ?_)
    exact Fin.of (by simp)
end Go.Proofs.YtplflfnfodghmaaGreatDoor
end
