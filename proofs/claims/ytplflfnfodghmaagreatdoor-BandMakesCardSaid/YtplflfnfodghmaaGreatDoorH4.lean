/- What some functions of the program answer at values that mean given lists, texts and numbers, each proved of the program's own code: part 4. Conditions: those that each theorem names. -/
import Derived.Test.YtplflfnfodghmaaGreatDoorH3
import Derived.Test.YtplflfnfodghmaaGreatDoorH1
set_option linter.unusedSimpArgs false
set_option linter.unusedVariables false
set_option maxHeartbeats 8000000
set_option maxRecDepth 100000
section
namespace Go.Proofs.YtplflfnfodghmaaGreatDoor
open Go Go.V Go.Nb
def S9 (k : Nat) (z : Int) : Prop := (mg 1000000000 z.natAbs).length ≤ k
theorem S9.mono {k l : Nat} {z : Int} (h : S9 k z) (hl : k ≤ l) : S9 l z := Nat.le_trans h hl
theorem S9.neg {k : Nat} {z : Int} (h : S9 k z) : S9 k (-z) := by unfold S9 at *; rw [Int.natAbs_neg]; exact h
theorem S9.le {k : Nat} {y z : Int} (h : S9 k z) (hy : y.natAbs ≤ z.natAbs) : S9 k y := Nat.le_trans (mg_len_mono (by omega) hy) h
theorem S9.mul {k l : Nat} {y z : Int} (h : S9 k y) (h2 : S9 l z) : S9 (k + l) (y * z) := by
  unfold S9 at *
  rw [Int.natAbs_mul]
  have := mg_len_mul (B := 1000000000) (by omega) y.natAbs z.natAbs
  omega
theorem S9.add {k : Nat} {y z : Int} (h : S9 k y) (h2 : S9 k z) : S9 (k + 1) (y + z) := by
  unfold S9 at *
  have h3 := mg_len_add (B := 1000000000) (by omega) y.natAbs z.natAbs
  have h4 := mg_len_mono (B := 1000000000) (by omega) (Int.natAbs_add_le y z)
  omega
theorem S9.lit {k : Nat} {z : Int} (h : z.natAbs < 1000000000 ^ k) : S9 k z := mg_len_le (by omega) h
theorem S9.nat {k : Nat} {n : Nat} : S9 k (n : Int) ↔ (mg 1000000000 n).length ≤ k := by unfold S9; rw [Int.natAbs_natCast]
theorem sum_c9 (x y : Int) (hx : S9 90000000 x) (hy : S9 90000000 y) : Called Tryz.prog 159 [itD x, itD y] (itD (x + y)) := by
  unfold S9 at hx hy
  have hl := mg_len_add (B := 1000000000) (by omega) x.natAbs y.natAbs
  have hs := plus_m x.natAbs y.natAbs (by omega) (by omega)
  have ho := compare_c x.natAbs y.natAbs (by omega) (by omega)
  rw [show itD x = .agg [.ints .u32 (mg 1000000000 x.natAbs), .bool (decide (x < 0))] from rfl, show itD y = .agg [.ints .u32 (mg 1000000000 y.natAbs), .bool (decide (y < 0))] from rfl]
  refine called_of_run tbOk 6 ⟨Tryz.func159, rfl, rfl, Nat.le_of_ble_eq_true rfl⟩ ?_
  (conv => whnf)
  refine V.st ?_
  refine Cnd.split (CondB.mk (fun hq => ?_) (fun hq => ?_))
  · rw [beq_iff_eq, decide_eq_decide] at hq
    have hm := signed_c (x.natAbs + y.natAbs) (decide (x < 0))
    have e : (if decide (x < 0) = true then -((x.natAbs + y.natAbs : Nat) : Int) else ((x.natAbs + y.natAbs : Nat) : Int)) = x + y := by
      by_cases h : x < 0
      · simp [h]; omega
      · simp [h]; omega
    rw [e] at hm
    (conv => whnf)
    refine V.st ?_
    refine ⟨(.take 0 (.take 1 (.take 2 (.take 3 (.take 5 (.take 6 (.ev (.cons 4 [6, 5] (.ev (.cons 7 [] (.ev (.cons 8 [] (.done) (.nil))) (.nil))) (.nil))))))))), ⟨by kernel_rfl, by kernel_rfl, by kernel_rfl⟩, .go ?_⟩
    (conv => whnf)
    refine V.st ?_
    repeat ((try ((with_reducible refine .ext ?_); (conv => whnf))); (with_reducible refine call_intro (r := ?_) ?_ ?_); rotate_left; (focus (first | exact (hs) | exact (hm))); (conv => whnf); refine V.st ?_)
    exact Fin.of rfl
  · have hq' : ¬ (x < 0 ↔ y < 0) := fun h => by rw [beq_eq_false_iff_ne] at hq; exact hq (decide_eq_decide.2 h)
    (conv => whnf)
    refine V.st ?_
    repeat ((try ((with_reducible refine .ext ?_); (conv => whnf))); (with_reducible refine call_intro (r := ?_) ?_ ?_); rotate_left; (focus (first | exact (ho))); (conv => whnf); refine V.st ?_)
    refine Cnd.split (CondB.mk (fun hq2 => ?_) (fun hq2 => ?_))
    · rw [decide_eq_true_eq] at hq2
      have hq3 := Int.neg_of_sign_eq_neg_one (a := ((x.natAbs : Int) - y.natAbs)) (by have := Int.sign_trichotomy ((x.natAbs : Int) - y.natAbs); omega)
      have hd := minus_m y.natAbs x.natAbs (by omega) (by omega)
      have hm := signed_c (y.natAbs - x.natAbs) (decide (y < 0))
      have e : (if decide (y < 0) = true then -((y.natAbs - x.natAbs : Nat) : Int) else ((y.natAbs - x.natAbs : Nat) : Int)) = x + y := by
        by_cases h : y < 0
        · simp [h]; omega
        · simp [h]; omega
      rw [e] at hm
      (conv => whnf)
      refine V.st ?_
      refine ⟨(.take 0 (.take 1 (.take 2 (.take 3 (.take 5 (.take 6 (.ev (.cons 4 [6, 5] (.ev (.cons 7 [] (.ev (.cons 8 [] (.done) (.nil))) (.nil))) (.nil))))))))), ⟨by kernel_rfl, by kernel_rfl, by kernel_rfl⟩, .go ?_⟩
      (conv => whnf)
      refine V.st ?_
      repeat ((try ((with_reducible refine .ext ?_); (conv => whnf))); (with_reducible refine call_intro (r := ?_) ?_ ?_); rotate_left; (focus (first | exact (hd) | exact (hm))); (conv => whnf); refine V.st ?_)
      exact Fin.of rfl
    · rw [decide_eq_false_iff_not] at hq2
      have hq3 : ¬ ((x.natAbs : Int) - y.natAbs) < 0 := fun h => hq2 (by rw [Int.sign_eq_neg_one_of_neg h]; decide)
      have hd := minus_m x.natAbs y.natAbs (by omega) (by omega)
      have hm := signed_c (x.natAbs - y.natAbs) (decide (x < 0))
      have e : (if decide (x < 0) = true then -((x.natAbs - y.natAbs : Nat) : Int) else ((x.natAbs - y.natAbs : Nat) : Int)) = x + y := by
        by_cases h : x < 0
        · simp [h]; omega
        · simp [h]; omega
      rw [e] at hm
      (conv => whnf)
      refine V.st ?_
      refine ⟨(.take 0 (.take 1 (.take 2 (.take 3 (.take 5 (.take 6 (.ev (.cons 4 [6, 5] (.ev (.cons 7 [] (.ev (.cons 8 [] (.done) (.nil))) (.nil))) (.nil))))))))), ⟨by kernel_rfl, by kernel_rfl, by kernel_rfl⟩, .go ?_⟩
      (conv => whnf)
      refine V.st ?_
      repeat ((try ((with_reducible refine .ext ?_); (conv => whnf))); (with_reducible refine call_intro (r := ?_) ?_ ?_); rotate_left; (focus (first | exact (hd) | exact (hm))); (conv => whnf); refine V.st ?_)
      exact Fin.of rfl
theorem scaled_c (x : Int) (d : Nat) (hx : S9 90000000 x) (hd : (mg 1000000000 d).length ≤ 90000000) : Called Tryz.prog 158 [itD x, .ints .u32 (mg 1000000000 d)] (itD (x * d)) := by
  unfold S9 at hx
  have ht := times_c x.natAbs d (by omega) (by omega)
  have hm := signed_c (x.natAbs * d) (decide (x < 0))
  have e : (if decide (x < 0) = true then -((x.natAbs * d : Nat) : Int) else ((x.natAbs * d : Nat) : Int)) = x * d := by
    rw [Int.natCast_mul]
    by_cases h : x < 0
    · have e2 : (x.natAbs : Int) = -x := by omega
      rw [e2, decide_eq_true h, if_pos rfl, Int.neg_mul, Int.neg_neg]
    · have e2 : (x.natAbs : Int) = x := by omega
      rw [e2]; simp [h]
  rw [e] at hm
  refine called_of_run tbOk 6 ⟨Tryz.func158, rfl, rfl, Nat.le_of_ble_eq_true rfl⟩ ?_
  (conv => whnf)
  refine V.st ?_
  refine ⟨(.take 0 (.take 1 (.take 2 (.take 4 (.take 5 (.ev (.cons 3 [5, 4] (.ev (.cons 6 [] (.ev (.cons 7 [] (.done) (.nil))) (.nil))) (.nil)))))))), ⟨by kernel_rfl, by kernel_rfl, by kernel_rfl⟩, .go ?_⟩
  (conv => whnf)
  refine V.st ?_
  repeat ((try ((with_reducible refine .ext ?_); (conv => whnf))); (with_reducible refine call_intro (r := ?_) ?_ ?_); rotate_left; (focus (first | exact (ht) | exact (hm))); (conv => whnf); refine V.st ?_)
  exact Fin.of rfl
theorem opposite_c (x : Int) : Called Tryz.prog 178 [itD x] (itD (-x)) := by
  have hm := signed_c x.natAbs (!decide (x < 0))
  have e : (if (!decide (x < 0)) = true then -(x.natAbs : Int) else (x.natAbs : Int)) = -x := by
    by_cases h : x < 0
    · simp [h]; omega
    · simp [h]; omega
  rw [e] at hm
  refine called_of_run tbOk 6 ⟨Tryz.func178, rfl, rfl, Nat.le_of_ble_eq_true rfl⟩ ?_
  (conv => whnf)
  refine V.st ?_
  repeat ((try ((with_reducible refine .ext ?_); (conv => whnf))); (with_reducible refine call_intro (r := ?_) ?_ ?_); rotate_left; (focus (first | exact (hm))); (conv => whnf); refine V.st ?_)
  exact Fin.of rfl
theorem sign_c (x : Int) : Called Tryz.prog 162 [itD x] (.int .i64 x.sign) := by
  have hz := zero_c x.natAbs
  refine called_of_run tbOk 6 ⟨Tryz.func162, rfl, rfl, Nat.le_of_ble_eq_true rfl⟩ ?_
  (conv => whnf)
  refine V.st ?_
  repeat ((try ((with_reducible refine .ext ?_); (conv => whnf))); (with_reducible refine call_intro (r := ?_) ?_ ?_); rotate_left; (focus (first | exact (hz))); (conv => whnf); refine V.st ?_)
  refine Cnd.split (CondB.mk (fun hq => ?_) (fun hq => ?_))
  · rw [decide_eq_true_eq] at hq
    (conv => whnf)
    refine V.st ?_
    exact Fin.of (by rw [show x = 0 by omega]; rfl)
  · rw [decide_eq_false_iff_not] at hq
    (conv => whnf)
    refine V.st ?_
    refine Cnd.split (CondB.mk (fun hq2 => ?_) (fun hq2 => ?_))
    · rw [decide_eq_true_eq] at hq2
      (conv => whnf)
      refine V.st ?_
      exact Fin.of (by rw [Int.sign_eq_neg_one_of_neg hq2])
    · rw [decide_eq_false_iff_not] at hq2
      (conv => whnf)
      refine V.st ?_
      exact Fin.of (by rw [Int.sign_eq_one_of_pos (by omega)])
theorem order_r (x y : Rat) (hx : S9 40000000 x.num) (hy : S9 40000000 y.num) (hxd : (mg 1000000000 x.den).length ≤ 40000000) (hyd : (mg 1000000000 y.den).length ≤ 40000000) : Called Tryz.prog 147 [rtD x, rtD y] (.int .i64 (ordQ x y)) := by
  have s1 := scaled_c x.num y.den (hx.mono (by omega)) (by omega)
  have s2 := scaled_c y.num x.den (hy.mono (by omega)) (by omega)
  have s3 := opposite_c (y.num * x.den)
  have z1 : S9 80000000 (x.num * y.den) := hx.mul (S9.nat.2 hyd)
  have z2 : S9 80000000 (y.num * x.den) := hy.mul (S9.nat.2 hxd)
  have s4 := sum_c9 (x.num * y.den) (-(y.num * x.den)) (z1.mono (by omega)) (z2.neg.mono (by omega))
  have s5 := sign_c (x.num * y.den + -(y.num * x.den))
  rw [order_parts] at s5
  refine called_of_run tbOk 6 ⟨Tryz.func147, rfl, rfl, Nat.le_of_ble_eq_true rfl⟩ ?_
  (conv => whnf)
  refine V.st ?_
  refine ⟨(.take 0 (.take 1 (.take 2 (.take 3 (.take 5 (.take 6 (.take 7 (.take 8 (.ev (.cons 4 [8, 7, 6, 5] (.ev (.cons 9 [] (.ev (.cons 10 [] (.ev (.cons 11 [] (.ev (.cons 12 [] (.take 13 (.done)) (.nil))) (.nil))) (.nil))) (.nil))) (.nil))))))))))), ⟨by kernel_rfl, by kernel_rfl, by kernel_rfl⟩, .go ?_⟩
  (conv => whnf)
  refine V.st ?_
  repeat ((try ((with_reducible refine .ext ?_); (conv => whnf))); (with_reducible refine call_intro (r := ?_) ?_ ?_); rotate_left; (focus (first | exact (s1) | exact (s2) | exact (s3) | exact (s4) | exact (s5))); (conv => whnf); refine V.st ?_)
  exact Fin.of rfl
theorem floor_neg (x : Int) (d : Nat) (hx : x < 0) (hd : 0 < d) : x / (d : Int) = if x.natAbs % d = 0 then -((x.natAbs / d : Nat) : Int) else -((x.natAbs / d + 1 : Nat) : Int) := by
  have h1 := Nat.div_add_mod x.natAbs d
  have h2 := Nat.mod_lt x.natAbs hd
  have e : x = -(x.natAbs : Int) := by omega
  generalize x.natAbs = n at *
  generalize hq : n / d = q at *
  generalize hr : n % d = r at *
  subst e
  have h3 : ((d * q + r : Nat) : Int) = (n : Int) := by rw [h1]
  rw [Int.natCast_add, Int.natCast_mul] at h3
  split
  · rename_i h
    subst h
    rw [← h3, Int.natCast_zero, Int.add_zero, ← Int.mul_neg, Int.mul_ediv_cancel_left _ (by omega)]
  · rw [Int.natCast_add, Int.natCast_one]
    refine (Int.ediv_eq_iff_of_pos (by omega)).2 ⟨?_, ?_⟩
    · rw [← h3, Int.neg_mul, Int.add_mul, Int.mul_comm (q : Int)]; omega
    · rw [← h3, Int.neg_mul, Int.add_mul, Int.mul_comm (q : Int)]; omega
theorem floor_c (x : Int) (d : Nat) (hd : 0 < d) (hx : S9 80000000 x) (hdl : (mg 1000000000 d).length ≤ 80000000) : Called Tryz.prog 177 [itD x, .ints .u32 (mg 1000000000 d)] (itD (x / d)) := by
  unfold S9 at hx
  have h1 := divide_c x.natAbs d hd (by omega) (by omega)
  have h2 := zero_c (x.natAbs % d)
  have hl2 := mg_len_mono (B := 1000000000) (by omega) (Nat.div_le_self x.natAbs d)
  have h3 := plus_m (x.natAbs / d) 1 (by omega) (by decide)
  have h4 := signed_c (x.natAbs / d + 1) (decide (x < 0))
  have h5 := signed_c (x.natAbs / d) (decide (x < 0))
  by_cases hx0 : x < 0
  · rw [floor_neg x d hx0 hd]
    rw [show itD x = .agg [.ints .u32 (mg 1000000000 x.natAbs), .bool (decide (x < 0))] from rfl]
    rw [decide_eq_true hx0] at h4 h5 ⊢
    rw [if_pos rfl] at h4 h5
    refine called_of_run tbOk 6 ⟨Tryz.func177, rfl, rfl, Nat.le_of_ble_eq_true rfl⟩ ?_
    (conv => whnf)
    refine V.st ?_
    repeat ((try ((with_reducible refine .ext ?_); (conv => whnf))); (with_reducible refine call_intro (r := ?_) ?_ ?_); rotate_left; (focus (first | exact (h1) | exact (h2))); (conv => whnf); refine V.st ?_)
    refine Cnd.split (CondB.mk (fun hq => ?_) (fun hq => ?_))
    · simp only [Bool.true_and, Bool.not_eq_true', decide_eq_false_iff_not] at hq
      rw [if_neg hq]
      (conv => whnf)
      refine V.st ?_
      repeat ((try ((with_reducible refine .ext ?_); (conv => whnf))); (with_reducible refine call_intro (r := ?_) ?_ ?_); rotate_left; (focus (first | exact (h3) | exact (h4))); (conv => whnf); refine V.st ?_)
      exact Fin.of rfl
    · simp only [Bool.true_and, Bool.not_eq_false', decide_eq_true_eq] at hq
      rw [if_pos hq]
      (conv => whnf)
      refine V.st ?_
      repeat ((try ((with_reducible refine .ext ?_); (conv => whnf))); (with_reducible refine call_intro (r := ?_) ?_ ?_); rotate_left; (focus (first | exact (h5))); (conv => whnf); refine V.st ?_)
      exact Fin.of rfl
  · have e : x / (d : Int) = ((x.natAbs / d : Nat) : Int) := by
      rw [Int.natCast_ediv]; congr 1; omega
    rw [e]
    rw [show itD x = .agg [.ints .u32 (mg 1000000000 x.natAbs), .bool (decide (x < 0))] from rfl]
    rw [decide_eq_false hx0] at h5 ⊢
    rw [if_neg (by simp)] at h5
    refine called_of_run tbOk 6 ⟨Tryz.func177, rfl, rfl, Nat.le_of_ble_eq_true rfl⟩ ?_
    (conv => whnf)
    refine V.st ?_
    repeat ((try ((with_reducible refine .ext ?_); (conv => whnf))); (with_reducible refine call_intro (r := ?_) ?_ ?_); rotate_left; (focus (first | exact (h1) | exact (h2))); (conv => whnf); refine V.st ?_)
    refine Cnd.split (CondB.mk (fun hq => ?_) (fun hq => ?_))
    · simp at hq
    · (conv => whnf)
      refine V.st ?_
      repeat ((try ((with_reducible refine .ext ?_); (conv => whnf))); (with_reducible refine call_intro (r := ?_) ?_ ?_); rotate_left; (focus (first | exact (h5))); (conv => whnf); refine V.st ?_)
      exact Fin.of rfl
end Go.Proofs.YtplflfnfodghmaaGreatDoor
end
section
namespace Go.Proofs.YtplflfnfodghmaaGreatDoor
open Go Go.V Go.Nb
def nearZ (q : Rat) (s : Nat) : Int := (q.num * ((s * 2 : Nat) : Int) + q.den) / ((q.den * 2 : Nat) : Int)
theorem near_r (x : Rat) (s : Nat) (hx : S9 30000000 x.num) (hxd : (mg 1000000000 x.den).length ≤ 30000000) (hs : (mg 1000000000 s).length ≤ 30000000) : Called Tryz.prog 143 [rtD x, .ints .u32 (mg 1000000000 s)] (itD (nearZ x s)) := by
  have h2 : (mg 1000000000 2).length ≤ 1 := by decide
  have t1 := times_c s 2 (by omega) (by omega)
  have l1 := mg_len_mul (B := 1000000000) (by omega) s 2
  have s1 := scaled_c x.num (s * 2) (hx.mono (by omega)) (by omega)
  have s2 := signed_c x.den false
  rw [if_neg (by simp)] at s2
  have z1 : S9 60000001 (x.num * ((s * 2 : Nat) : Int)) := hx.mul (l := 30000001) (S9.nat.2 (by omega))
  have z2 : S9 60000001 (x.den : Int) := S9.nat.2 (by omega)
  have s3 := sum_c9 _ _ (z1.mono (by omega)) (z2.mono (by omega))
  have t2 := times_c x.den 2 (by omega) (by omega)
  have l2 := mg_len_mul (B := 1000000000) (by omega) x.den 2
  have s4 := floor_c (x.num * ((s * 2 : Nat) : Int) + x.den) (x.den * 2) (by have := x.den_pos; omega) ((z1.add z2).mono (by omega)) (by omega)
  unfold nearZ
  clear z1 z2
  generalize x.num * ((s * 2 : Nat) : Int) + x.den = top at *
  refine called_of_run tbOk 6 ⟨Tryz.func143, rfl, rfl, Nat.le_of_ble_eq_true rfl⟩ ?_
  (conv => whnf)
  refine V.st ?_
  refine ⟨(.take 0 (.take 1 (.take 2 (.take 3 (.take 6 (.take 7 (.ev (.cons 4 [7, 6, 1, 0] (.ev (.cons 5 [7, 6] (.ev (.cons 8 [] (.ev (.cons 9 [] (.ev (.cons 10 [] (.ev (.cons 11 [] (.done) (.nil))) (.nil))) (.cons 10 [] (.ev (.cons 9 [] (.ev (.cons 11 [] (.done) (.nil))) (.nil))) (.nil)))) (.cons 10 [7, 6] (.ev (.cons 8 [] (.ev (.cons 9 [] (.ev (.cons 11 [] (.done) (.nil))) (.nil))) (.nil))) (.nil)))) (.cons 10 [7, 6, 1, 0] (.ev (.cons 5 [7, 6] (.ev (.cons 8 [] (.ev (.cons 9 [] (.ev (.cons 11 [] (.done) (.nil))) (.nil))) (.nil))) (.nil))) (.nil)))) (.cons 10 [7, 6, 3, 2, 1, 0] (.ev (.cons 4 [7, 6, 1, 0] (.ev (.cons 5 [7, 6] (.ev (.cons 8 [] (.ev (.cons 9 [] (.ev (.cons 11 [] (.done) (.nil))) (.nil))) (.nil))) (.nil))) (.nil))) (.nil)))))))))), ⟨by kernel_rfl, by kernel_rfl, by kernel_rfl⟩, ?_⟩
  refine drw_meet [(6, .box 6 0), (5, .ints .u32 [2]), (7, .ints .u32 [2])] [(6, .box [.ints .u32 (mg 1000000000 top.natAbs), .bool (decide (top < 0))]), (7, .gone)] ?_ ?_
  · (conv => whnf); (try simp only [Nat.zero_add])
    repeat' (first | exact V.wk | (refine V.s1 ?_; (try simp only [Nat.zero_add])) | ((with_reducible refine recheck_and ?_ ?_); (focus ((conv => whnf); (try simp only [Nat.zero_add]); (repeat (refine V.s1 ?_; (try simp only [Nat.zero_add]))); exact ⟨rfl⟩)); (conv => whnf); (try simp only [Nat.zero_add])) | ((try ((with_reducible refine .ext ?_); (conv => whnf); (try simp only [Nat.zero_add]))); (with_reducible refine call_intro (r := ?_) ?_ ?_); rotate_left; (focus (first | exact (t1) | exact (s1) | exact (s2) | exact (s3))); (conv => whnf); (try simp only [Nat.zero_add])) | (refine And.intro ?_ ?_ <;> (conv => whnf); (try simp only [Nat.zero_add])))
  refine V.st ?_
  refine ⟨(.take 0 (.take 1 (.take 2 (.take 3 (.ev (.cons 4 [0] (.ev (.cons 5 [] (.ev (.cons 6 [] (.done) (.nil))) (.nil))) (.nil))))))), ⟨by kernel_rfl, by kernel_rfl, by kernel_rfl⟩, .go ?_⟩
  (conv => whnf)
  refine V.st ?_
  repeat ((try ((with_reducible refine .ext ?_); (conv => whnf))); (with_reducible refine call_intro (r := ?_) ?_ ?_); rotate_left; (focus (first | exact (t2) | exact (s4))); (conv => whnf); refine V.st ?_)
  exact Fin.of rfl
end Go.Proofs.YtplflfnfodghmaaGreatDoor
end
section
namespace Go.Proofs.YtplflfnfodghmaaGreatDoor
open Go Go.V Go.Nb
theorem divInt_cop (n : Int) (d : Nat) (hd : 0 < d) (h : Nat.Coprime n.natAbs d) : (Rat.divInt n d).num = n ∧ (Rat.divInt n d).den = d := by
  have h1 : Int.gcd (d : Int) n = 1 := by rw [Int.gcd_comm]; exact h
  rw [Rat.num_divInt, Rat.den_divInt, if_neg (by omega), Int.sign_eq_one_of_pos (by omega), Int.one_mul, h1]
  simp
theorem cop_dvd {a b c : Nat} (h : Nat.Coprime a b) (hc : c ∣ a) : Nat.Coprime c b := Nat.Coprime.coprime_dvd_left hc h
theorem cop_dvd' {a b c : Nat} (h : Nat.Coprime a b) (hc : c ∣ b) : Nat.Coprime a c := Nat.Coprime.coprime_dvd_right hc h
theorem sum_cop {xn yn : Int} {R L xb : Nat} (hx : Nat.Coprime xn.natAbs xb) (hR : R ∣ xb) (hRL : Nat.Coprime R L) : Nat.Coprime (xn * L + yn * R).natAbs R := by
  have h1 : Nat.gcd (xn * L + yn * R).natAbs R ∣ R := Nat.gcd_dvd_right _ _
  have h2 : Nat.gcd (xn * L + yn * R).natAbs R ∣ (xn * L + yn * R).natAbs := Nat.gcd_dvd_left _ _
  obtain ⟨d, hd⟩ : ∃ d, d = Nat.gcd (xn * L + yn * R).natAbs R := ⟨_, rfl⟩
  rw [← hd] at h1 h2
  have h3 : (d : Int) ∣ xn * L + yn * R := Int.ofNat_dvd_left.2 h2
  have h4 : (d : Int) ∣ yn * R := Int.dvd_trans (Int.ofNat_dvd.2 h1) (Int.dvd_mul_left _ _)
  have h5 : (d : Int) ∣ xn * L := by
    have := Int.dvd_sub h3 h4
    rwa [Int.add_sub_cancel] at this
  have h6 : d ∣ xn.natAbs * L := by
    have := Int.ofNat_dvd_left.1 h5
    rwa [Int.natAbs_mul, Int.natAbs_natCast] at this
  have h7 : Nat.Coprime d L := cop_dvd hRL h1
  have h8 : d ∣ xn.natAbs := Nat.Coprime.dvd_of_dvd_mul_right h7 h6
  have h9 : d ∣ Nat.gcd xn.natAbs xb := Nat.dvd_gcd h8 (Nat.dvd_trans h1 hR)
  rw [hx.gcd_eq_one] at h9
  show Nat.gcd _ _ = 1
  rw [← hd]
  exact Nat.dvd_one.1 h9
theorem add_parts (x y : Rat) :
    let g := Nat.gcd x.den y.den; let L := y.den / g; let R := x.den / g; let top := x.num * L + y.num * R; let h := Nat.gcd top.natAbs g
    (x + y).num = top / h ∧ (x + y).den = R * (y.den / h) := by
  intro g L R top h
  have hg : 0 < g := Nat.gcd_pos_of_pos_left _ x.den_pos
  have ex : x.den = R * g := (Nat.div_mul_cancel (Nat.gcd_dvd_left _ _)).symm
  have ey : y.den = L * g := (Nat.div_mul_cancel (Nat.gcd_dvd_right _ _)).symm
  have hRL : Nat.Coprime R L := Nat.coprime_div_gcd_div_gcd hg
  have c1 : Nat.Coprime top.natAbs R := sum_cop x.reduced (by rw [ex]; exact Nat.dvd_mul_right _ _) hRL
  have c2 : Nat.Coprime top.natAbs L := by
    have := sum_cop (xn := y.num) (yn := x.num) (R := L) (L := R) y.reduced (by rw [ey]; exact Nat.dvd_mul_right _ _) hRL.symm
    rwa [Int.add_comm] at this
  have hh : 0 < h := Nat.gcd_pos_of_pos_right _ hg
  have hht : h ∣ top.natAbs := Nat.gcd_dvd_left _ _
  have hhg : h ∣ g := Nat.gcd_dvd_right _ _
  have hT : ((h : Nat) : Int) ∣ top := Int.ofNat_dvd_left.2 hht
  obtain ⟨t, ht⟩ := hT
  obtain ⟨q, hq⟩ := hhg
  have hyq : y.den / h = L * q := by
    rw [ey, hq, Nat.mul_comm h q, ← Nat.mul_assoc, Nat.mul_div_cancel _ hh]
  have htn : top.natAbs = h * t.natAbs := by rw [ht, Int.natAbs_mul, Int.natAbs_natCast]
  have hcq : Nat.Coprime t.natAbs q := by
    have h1 : Nat.Coprime (top.natAbs / h) (g / h) := Nat.coprime_div_gcd_div_gcd hh
    rwa [htn, hq, Nat.mul_div_cancel_left _ hh, Nat.mul_div_cancel_left _ hh] at h1
  have htd : t.natAbs ∣ top.natAbs := by rw [htn]; exact Nat.dvd_mul_left _ _
  have hcop : Nat.Coprime t.natAbs (R * (y.den / h)) := by
    rw [hyq]
    exact Nat.Coprime.mul_right (cop_dvd c1 htd) (Nat.Coprime.mul_right (cop_dvd c2 htd) hcq)
  have hqp : 0 < q := Nat.pos_of_ne_zero fun e => by rw [e] at hq; omega
  have hLp : 0 < L := Nat.pos_of_ne_zero fun e => by have := y.den_pos; rw [ey, e] at this; omega
  have hRp : 0 < R := Nat.pos_of_ne_zero fun e => by have := x.den_pos; rw [ex, e] at this; omega
  have hsum : x + y = Rat.divInt t ((R * (y.den / h) : Nat) : Int) := by
    conv => lhs; rw [← Rat.num_divInt_den x, ← Rat.num_divInt_den y]
    rw [Rat.divInt_add_divInt _ _ (by have := x.den_pos; omega) (by have := y.den_pos; omega)]
    have hyp := y.den_pos
    have hxp := x.den_pos
    rw [Rat.divInt_eq_divInt_iff (by have := Nat.mul_pos hxp hyp; rw [← Int.natCast_mul]; omega) (by have : 0 < R * (y.den / h) := by { rw [hyq]; exact Nat.mul_pos hRp (Nat.mul_pos hLp hqp) }; omega)]
    rw [hyq, ex, ey, hq]
    have e1 : x.num * ((L * (h * q) : Nat) : Int) + y.num * ((R * (h * q) : Nat) : Int) = (h * q : Nat) * top := by
      show _ = ((h * q : Nat) : Int) * (x.num * (L : Int) + y.num * (R : Int))
      simp only [Int.natCast_mul, Int.mul_add]
      congr 1 <;> ac_rfl
    rw [e1, ht]
    simp only [Int.natCast_mul]
    ac_rfl
  have hp : 0 < R * (y.den / h) := by rw [hyq]; exact Nat.mul_pos hRp (Nat.mul_pos hLp hqp)
  obtain ⟨p1, p2⟩ := divInt_cop t (R * (y.den / h)) hp hcop
  rw [hsum, p1, p2, ht, Int.mul_ediv_cancel_left _ (by omega)]
  exact ⟨rfl, rfl⟩
theorem mul_parts (x y : Rat) :
    let g := Nat.gcd x.num.natAbs y.den; let h := Nat.gcd y.num.natAbs x.den
    (x * y).num.natAbs = (x.num.natAbs / g) * (y.num.natAbs / h) ∧ (x * y).den = (x.den / h) * (y.den / g) := by
  intro g h
  have hg : 0 < g := Nat.gcd_pos_of_pos_right _ y.den_pos
  have hh : 0 < h := Nat.gcd_pos_of_pos_right _ x.den_pos
  obtain ⟨a, ha⟩ : g ∣ x.num.natAbs := Nat.gcd_dvd_left _ _
  obtain ⟨b, hb⟩ : g ∣ y.den := Nat.gcd_dvd_right _ _
  obtain ⟨c, hc⟩ : h ∣ y.num.natAbs := Nat.gcd_dvd_left _ _
  obtain ⟨d, hd⟩ : h ∣ x.den := Nat.gcd_dvd_right _ _
  have k1 : x.num.natAbs / g = a := by rw [ha, Nat.mul_div_cancel_left _ hg]
  have k2 : y.den / g = b := by rw [hb, Nat.mul_div_cancel_left _ hg]
  have k3 : y.num.natAbs / h = c := by rw [hc, Nat.mul_div_cancel_left _ hh]
  have k4 : x.den / h = d := by rw [hd, Nat.mul_div_cancel_left _ hh]
  have c1 : Nat.Coprime a b := by
    have : Nat.Coprime (x.num.natAbs / g) (y.den / g) := Nat.coprime_div_gcd_div_gcd hg
    rwa [k1, k2] at this
  have c2 : Nat.Coprime c d := by
    have : Nat.Coprime (y.num.natAbs / h) (x.den / h) := Nat.coprime_div_gcd_div_gcd hh
    rwa [k3, k4] at this
  have c3 : Nat.Coprime a d := cop_dvd (cop_dvd' x.reduced (by rw [hd]; exact Nat.dvd_mul_left _ _)) (by rw [ha]; exact Nat.dvd_mul_left _ _)
  have c4 : Nat.Coprime c b := cop_dvd (cop_dvd' y.reduced (by rw [hb]; exact Nat.dvd_mul_left _ _)) (by rw [hc]; exact Nat.dvd_mul_left _ _)
  have hcop : Nat.Coprime (a * c) (d * b) := Nat.Coprime.mul_right (Nat.Coprime.mul_left c3 c2) (Nat.Coprime.mul_left c1 c4)
  obtain ⟨u, hu⟩ : ((g : Nat) : Int) ∣ x.num := Int.ofNat_dvd_left.2 ⟨a, ha⟩
  obtain ⟨v, hv⟩ : ((h : Nat) : Int) ∣ y.num := Int.ofNat_dvd_left.2 ⟨c, hc⟩
  have hua : u.natAbs = a := by
    have := ha; rw [hu, Int.natAbs_mul, Int.natAbs_natCast] at this
    exact Nat.eq_of_mul_eq_mul_left hg this
  have hvc : v.natAbs = c := by
    have := hc; rw [hv, Int.natAbs_mul, Int.natAbs_natCast] at this
    exact Nat.eq_of_mul_eq_mul_left hh this
  have hbp : 0 < b := Nat.pos_of_ne_zero fun e => by have := y.den_pos; rw [hb, e] at this; omega
  have hdp : 0 < d := Nat.pos_of_ne_zero fun e => by have := x.den_pos; rw [hd, e] at this; omega
  have hp : 0 < d * b := Nat.mul_pos hdp hbp
  have hprod : x * y = Rat.divInt (u * v) ((d * b : Nat) : Int) := by
    conv => lhs; rw [← Rat.num_divInt_den x, ← Rat.num_divInt_den y]
    rw [Rat.divInt_mul_divInt]
    have hyp := y.den_pos
    have hxp := x.den_pos
    rw [Rat.divInt_eq_divInt_iff (by have := Nat.mul_pos hxp hyp; rw [← Int.natCast_mul]; omega) (by omega), hb, hd]
    conv => lhs; rw [hu, hv]
    simp only [Int.natCast_mul]
    ac_rfl
  obtain ⟨p1, p2⟩ := divInt_cop (u * v) (d * b) hp (by rw [Int.natAbs_mul, hua, hvc]; exact hcop)
  rw [hprod, p1, p2, Int.natAbs_mul, hua, hvc, k1, k2, k3, k4]
  exact ⟨rfl, rfl⟩
theorem mul_sign (x y : Rat) : decide ((x * y).num < 0) = ((decide (x.num < 0) != decide (y.num < 0)) && !decide ((x * y).num = 0)) := by
  have hg : 0 < Nat.gcd (x.num * y.num).natAbs (x.den * y.den) := Nat.gcd_pos_of_pos_right _ (Nat.mul_pos x.den_pos y.den_pos)
  obtain ⟨t, ht⟩ : ((Nat.gcd (x.num * y.num).natAbs (x.den * y.den) : Nat) : Int) ∣ x.num * y.num := Int.ofNat_dvd_left.2 (Nat.gcd_dvd_left _ _)
  have key : (x * y).num = t := by
    rw [Rat.mul_def, Rat.normalize_eq]
    show x.num * y.num / ((Nat.gcd (x.num * y.num).natAbs (x.den * y.den) : Nat) : Int) = t
    conv => lhs; lhs; rw [ht]
    exact Int.mul_ediv_cancel_left _ (by omega)
  rw [key]
  generalize Nat.gcd (x.num * y.num).natAbs (x.den * y.den) = g at *
  have hs : (t < 0 ↔ x.num * y.num < 0) ∧ (t = 0 ↔ x.num * y.num = 0) := by
    rw [ht]
    constructor
    · constructor
      · intro h; exact Int.mul_neg_of_pos_of_neg (by omega) h
      · intro h
        rcases Int.lt_or_le t 0 with h2 | h2
        · exact h2
        · have := Int.mul_nonneg (a := (g : Int)) (by omega) h2; omega
    · constructor
      · intro h; rw [h, Int.mul_zero]
      · intro h; rcases Int.mul_eq_zero.1 h with h2 | h2 <;> omega
  by_cases h1 : x.num < 0 <;> by_cases h2 : y.num < 0 <;> by_cases h3 : t = 0
  all_goals
    have h4 := hs.1
    have h5 := hs.2
    simp only [h1, h2, h3, decide_true, decide_false, bne_self_eq_false, Bool.false_and, Bool.not_true, Bool.and_false, Bool.not_false, Bool.and_true]
  · rfl
  · rw [decide_eq_false_iff_not, h4]
    have := Int.mul_pos_of_neg_of_neg h1 h2; omega
  · simp
  · have h6 : x.num * y.num ≠ 0 := fun e => h3 (h5.2 e)
    have h7 : x.num * y.num ≤ 0 := Int.mul_nonpos_of_nonpos_of_nonneg (by omega) (by omega)
    simp only [h4]
    simp; omega
  · simp
  · have h6 : x.num * y.num ≠ 0 := fun e => h3 (h5.2 e)
    have h7 : x.num * y.num ≤ 0 := Int.mul_nonpos_of_nonneg_of_nonpos (by omega) (by omega)
    simp only [h4]
    simp; omega
  · rfl
  · rw [decide_eq_false_iff_not, h4]
    have := Int.mul_nonneg (a := x.num) (b := y.num) (by omega) (by omega); omega
end Go.Proofs.YtplflfnfodghmaaGreatDoor
end
section
namespace Go.Proofs.YtplflfnfodghmaaGreatDoor
open Go Go.V Go.Nb
def Q9 (k : Nat) (q : Rat) : Prop := S9 k q.num ∧ (mg 1000000000 q.den).length ≤ k
theorem Q9.mono {k l : Nat} {q : Rat} (h : Q9 k q) (hl : k ≤ l) : Q9 l q := ⟨h.1.mono hl, Nat.le_trans h.2 hl⟩
theorem Q9.neg {k : Nat} {q : Rat} (h : Q9 k q) : Q9 k (-q) := ⟨by rw [Rat.neg_num]; exact h.1.neg, by rw [Rat.neg_den]; exact h.2⟩
theorem div_sign (t : Int) (h : Nat) (hd : h ∣ t.natAbs) : (if decide (t < 0) = true then -((t.natAbs / h : Nat) : Int) else ((t.natAbs / h : Nat) : Int)) = t / h := by
  have e : t = t.sign * (t.natAbs : Int) := (Int.sign_mul_natAbs t).symm
  by_cases hz : t < 0
  · rw [decide_eq_true hz, if_pos rfl]
    have e2 : t = -(t.natAbs : Int) := by omega
    conv => rhs; rw [e2]
    rw [Int.neg_ediv_of_dvd (Int.ofNat_dvd.2 hd), Int.natCast_ediv]
  · rw [decide_eq_false hz, if_neg (by simp)]
    have e2 : t = (t.natAbs : Int) := by omega
    conv => rhs; rw [e2]
    rw [Int.natCast_ediv]
theorem negated_c (q : Rat) : Called Tryz.prog 161 [rtD q] (rtD (-q)) := by
  have h1 := opposite_c q.num
  have e : rtD (-q) = .agg [.ints .u32 (mg 1000000000 (-q.num).natAbs), .bool (decide (-q.num < 0)), .ints .u32 (mg 1000000000 q.den)] := by unfold rtD; rw [Rat.neg_num, Rat.neg_den]
  rw [e]
  refine called_of_run tbOk 6 ⟨Tryz.func161, rfl, rfl, Nat.le_of_ble_eq_true rfl⟩ ?_
  (conv => whnf)
  refine V.st ?_
  refine ⟨(.take 0 (.take 1 (.take 3 (.take 4 (.ev (.cons 2 [4, 3] (.take 5 (.ev (.cons 6 [] (.done) (.nil)))) (.nil))))))), ⟨by kernel_rfl, by kernel_rfl, by kernel_rfl⟩, .go ?_⟩
  (conv => whnf)
  refine V.st ?_
  repeat ((try ((with_reducible refine .ext ?_); (conv => whnf))); (with_reducible refine call_intro (r := ?_) ?_ ?_); rotate_left; (focus (first | exact (h1))); (conv => whnf); refine V.st ?_)
  exact Fin.of rfl
theorem add_c (x y : Rat) (hx : Q9 20000000 x) (hy : Q9 20000000 y) : Called Tryz.prog 117 [rtD x, rtD y] (rtD (x + y)) := by
  obtain ⟨p1, p2⟩ := add_parts x y
  have g1 := gcd_c x.den y.den (by have := hx.2; omega) (by have := hy.2; omega)
  have hg : 0 < Nat.gcd x.den y.den := Nat.gcd_pos_of_pos_left _ x.den_pos
  have lg := mg_len_mono (B := 1000000000) (by omega) (Nat.gcd_le_left y.den x.den_pos)
  generalize Nat.gcd x.den y.den = g at *
  have hx1 := hx.1
  have hy1 := hy.1
  have hx2 := hx.2
  have hy2 := hy.2
  have d1 := divide_c y.den g hg (by omega) (by omega)
  have d2 := divide_c x.den g hg (by omega) (by omega)
  have lL := mg_len_mono (B := 1000000000) (by omega) (Nat.div_le_self y.den g)
  have lR := mg_len_mono (B := 1000000000) (by omega) (Nat.div_le_self x.den g)
  have s1 := scaled_c x.num (y.den / g) (hx1.mono (by omega)) (by omega)
  have s2 := scaled_c y.num (x.den / g) (hy1.mono (by omega)) (by omega)
  have z1 : S9 40000000 (x.num * ((y.den / g : Nat) : Int)) := hx1.mul (l := 20000000) (S9.nat.2 (by omega))
  have z2 : S9 40000000 (y.num * ((x.den / g : Nat) : Int)) := hy1.mul (l := 20000000) (S9.nat.2 (by omega))
  have s3 := sum_c9 _ _ (z1.mono (by omega)) (z2.mono (by omega))
  have z3 := z1.add z2
  generalize x.num * ((y.den / g : Nat) : Int) + y.num * ((x.den / g : Nat) : Int) = top at *
  unfold S9 at z3
  have g2 := gcd_c top.natAbs g (by omega) (by omega)
  have hh : 0 < Nat.gcd top.natAbs g := Nat.gcd_pos_of_pos_right _ hg
  have lh := mg_len_mono (B := 1000000000) (by omega) (Nat.gcd_le_right top.natAbs hg)
  have hdv : Nat.gcd top.natAbs g ∣ top.natAbs := Nat.gcd_dvd_left _ _
  generalize Nat.gcd top.natAbs g = h at *
  have d3 := divide_c top.natAbs h hh (by omega) (by omega)
  have d4 := divide_c y.den h hh (by omega) (by omega)
  have lT := mg_len_mono (B := 1000000000) (by omega) (Nat.div_le_self y.den h)
  have t1 := times_c (x.den / g) (y.den / h) (by omega) (by omega)
  have m1 := signed_c (top.natAbs / h) (decide (top < 0))
  rw [div_sign top h hdv, ← p1] at m1
  rw [← p2] at t1
  refine called_of_run tbOk 6 ⟨Tryz.func117, rfl, rfl, Nat.le_of_ble_eq_true rfl⟩ ?_
  (conv => whnf)
  refine V.st ?_
  repeat ((try ((with_reducible refine .ext ?_); (conv => whnf))); (with_reducible refine call_intro (r := ?_) ?_ ?_); rotate_left; (focus (first | exact (g1) | exact (d1) | exact (d2))); (conv => whnf); refine V.st ?_)
  refine ⟨(.take 0 (.take 1 (.take 2 (.take 4 (.take 5 (.take 6 (.ev (.cons 3 [6, 5, 4] (.ev (.cons 7 [] (.ev (.cons 8 [] (.ev (.cons 9 [] (.ev (.cons 10 [] (.done) (.nil))) (.nil))) (.cons 9 [] (.ev (.cons 8 [] (.ev (.cons 10 [] (.done) (.nil))) (.nil))) (.nil)))) (.cons 9 [6, 5, 4] (.ev (.cons 7 [] (.ev (.cons 8 [] (.ev (.cons 10 [] (.done) (.nil))) (.nil))) (.nil))) (.nil)))) (.cons 9 [6, 5, 4, 2, 1, 0] (.ev (.cons 3 [6, 5, 4] (.ev (.cons 7 [] (.ev (.cons 8 [] (.ev (.cons 10 [] (.done) (.nil))) (.nil))) (.nil))) (.nil))) (.nil)))))))))), ⟨by kernel_rfl, by kernel_rfl, by kernel_rfl⟩, ?_⟩
  refine drw_meet [(10, .box 10 0)] [(10, .box [.ints .u32 (mg 1000000000 top.natAbs), .bool (decide (top < 0))])] ?_ ?_
  · (conv => whnf); (try simp only [Nat.zero_add])
    repeat' (first | exact V.wk | (refine V.s1 ?_; (try simp only [Nat.zero_add])) | ((with_reducible refine recheck_and ?_ ?_); (focus ((conv => whnf); (try simp only [Nat.zero_add]); (repeat (refine V.s1 ?_; (try simp only [Nat.zero_add]))); exact ⟨rfl⟩)); (conv => whnf); (try simp only [Nat.zero_add])) | ((try ((with_reducible refine .ext ?_); (conv => whnf); (try simp only [Nat.zero_add]))); (with_reducible refine call_intro (r := ?_) ?_ ?_); rotate_left; (focus (first | exact (s1) | exact (s2) | exact (s3))); (conv => whnf); (try simp only [Nat.zero_add])) | (refine And.intro ?_ ?_ <;> (conv => whnf); (try simp only [Nat.zero_add])))
  (conv => whnf)
  refine V.st ?_
  repeat ((try ((with_reducible refine .ext ?_); (conv => whnf))); (with_reducible refine call_intro (r := ?_) ?_ ?_); rotate_left; (focus (first | exact (g2) | exact (d3) | exact (d4) | exact (m1) | exact (t1))); (conv => whnf); refine V.st ?_)
  exact Fin.of rfl
theorem sub_c (x y : Rat) (hx : Q9 20000000 x) (hy : Q9 20000000 y) : Called Tryz.prog 118 [rtD x, rtD y] (rtD (x - y)) := by
  have h1 := negated_c y
  have h2 := add_c x (-y) hx hy.neg
  rw [← Rat.sub_eq_add_neg] at h2
  refine called_of_run tbOk 6 ⟨Tryz.func118, rfl, rfl, Nat.le_of_ble_eq_true rfl⟩ ?_
  (conv => whnf)
  refine V.st ?_
  refine ⟨(.take 0 (.take 1 (.ev (.cons 2 [0] (.ev (.cons 3 [] (.ev (.cons 4 [] (.done) (.nil))) (.nil))) (.nil))))), ⟨by kernel_rfl, by kernel_rfl, by kernel_rfl⟩, .go ?_⟩
  (conv => whnf)
  refine V.st ?_
  repeat ((try ((with_reducible refine .ext ?_); (conv => whnf))); (with_reducible refine call_intro (r := ?_) ?_ ?_); rotate_left; (focus (first | exact (h1) | exact (h2))); (conv => whnf); refine V.st ?_)
  exact Fin.of rfl
theorem mul_num (x y : Rat) : (if (decide (x.num < 0) != decide (y.num < 0)) = true then -((x * y).num.natAbs : Int) else ((x * y).num.natAbs : Int)) = (x * y).num := by
  have h := mul_sign x y
  by_cases h0 : (x * y).num = 0
  · rw [h0]; simp
  · rw [decide_eq_false h0, Bool.not_false, Bool.and_true] at h
    rw [← h]
    by_cases h1 : (x * y).num < 0
    · rw [decide_eq_true h1, if_pos rfl]; omega
    · rw [decide_eq_false h1, if_neg (by simp)]; omega
theorem mul_c (x y : Rat) (hx : Q9 20000000 x) (hy : Q9 20000000 y) : Called Tryz.prog 119 [rtD x, rtD y] (rtD (x * y)) := by
  obtain ⟨p1, p2⟩ := mul_parts x y
  have pn := mul_num x y
  have hx1 := hx.1
  have hy1 := hy.1
  have hx2 := hx.2
  have hy2 := hy.2
  unfold S9 at hx1 hy1
  have g1 := gcd_c x.num.natAbs y.den (by omega) (by omega)
  have g2 := gcd_c y.num.natAbs x.den (by omega) (by omega)
  have hg : 0 < Nat.gcd x.num.natAbs y.den := Nat.gcd_pos_of_pos_right _ y.den_pos
  have hh : 0 < Nat.gcd y.num.natAbs x.den := Nat.gcd_pos_of_pos_right _ x.den_pos
  have lg := mg_len_mono (B := 1000000000) (by omega) (Nat.gcd_le_right x.num.natAbs y.den_pos)
  have lh := mg_len_mono (B := 1000000000) (by omega) (Nat.gcd_le_right y.num.natAbs x.den_pos)
  generalize Nat.gcd x.num.natAbs y.den = g at *
  generalize Nat.gcd y.num.natAbs x.den = h at *
  have d1 := divide_c x.num.natAbs g hg (by omega) (by omega)
  have d2 := divide_c x.den h hh (by omega) (by omega)
  have d3 := divide_c y.num.natAbs h hh (by omega) (by omega)
  have d4 := divide_c y.den g hg (by omega) (by omega)
  have l1 := mg_len_mono (B := 1000000000) (by omega) (Nat.div_le_self x.num.natAbs g)
  have l2 := mg_len_mono (B := 1000000000) (by omega) (Nat.div_le_self x.den h)
  have l3 := mg_len_mono (B := 1000000000) (by omega) (Nat.div_le_self y.num.natAbs h)
  have l4 := mg_len_mono (B := 1000000000) (by omega) (Nat.div_le_self y.den g)
  have t1 := times_c (x.num.natAbs / g) (y.num.natAbs / h) (by omega) (by omega)
  have t2 := times_c (x.den / h) (y.den / g) (by omega) (by omega)
  rw [← p1] at t1
  rw [← p2] at t2
  have m1 := signed_c (x * y).num.natAbs (decide (x.num < 0) != decide (y.num < 0))
  rw [pn] at m1
  refine called_of_run tbOk 6 ⟨Tryz.func119, rfl, rfl, Nat.le_of_ble_eq_true rfl⟩ ?_
  (conv => whnf)
  refine V.st ?_
  repeat ((try ((with_reducible refine .ext ?_); (conv => whnf))); (with_reducible refine call_intro (r := ?_) ?_ ?_); rotate_left; (focus (first | exact (g1) | exact (g2) | exact (d1) | exact (d2) | exact (d3) | exact (d4))); (conv => whnf); refine V.st ?_)
  refine ⟨(.take 0 (.take 1 (.take 3 (.take 4 (.take 5 (.take 6 (.take 7 (.take 8 (.take 9 (.take 11 (.take 12 (.ev (.cons 2 [12, 11, 9, 8, 7, 6, 5, 4, 3] (.ev (.cons 10 [12, 11] (.ev (.cons 13 [] (.take 14 (.ev (.cons 15 [] (.done) (.nil)))) (.nil))) (.nil))) (.nil)))))))))))))), ⟨by kernel_rfl, by kernel_rfl, by kernel_rfl⟩, .go ?_⟩
  (conv => whnf)
  refine V.st ?_
  repeat ((try ((with_reducible refine .ext ?_); (conv => whnf))); (with_reducible refine call_intro (r := ?_) ?_ ?_); rotate_left; (focus (first | exact (t1) | exact (m1) | exact (t2))); (conv => whnf); refine V.st ?_)
  exact Fin.of rfl
theorem inv_parts (q : Rat) (hq : q.num ≠ 0) : q⁻¹.num = (if decide (q.num < 0) = true then -(q.den : Int) else (q.den : Int)) ∧ q⁻¹.den = q.num.natAbs := by
  have hd := q.den_pos
  have hc : Nat.Coprime (if decide (q.num < 0) = true then -(q.den : Int) else (q.den : Int)).natAbs q.num.natAbs := by
    have e : (if decide (q.num < 0) = true then -(q.den : Int) else (q.den : Int)).natAbs = q.den := by
      split <;> simp
    rw [e]
    exact q.reduced.symm
  have e : q⁻¹ = Rat.divInt (if decide (q.num < 0) = true then -(q.den : Int) else (q.den : Int)) (q.num.natAbs : Nat) := by
    rw [Rat.inv_def, Rat.divInt_eq_divInt_iff hq (by omega)]
    by_cases h : q.num < 0
    · rw [decide_eq_true h, if_pos rfl, show (q.num.natAbs : Int) = -q.num by omega, Int.mul_neg, Int.neg_mul]
    · rw [decide_eq_false h, if_neg (by simp), show (q.num.natAbs : Int) = q.num by omega]
  obtain ⟨h1, h2⟩ := divInt_cop _ q.num.natAbs (by omega) hc
  rw [e]
  exact ⟨h1, h2⟩
theorem inverse_c (q : Rat) (hq : q.num ≠ 0) : Called Tryz.prog 122 [rtD q] (rtD q⁻¹) := by
  obtain ⟨p1, p2⟩ := inv_parts q hq
  have m1 := signed_c q.den (decide (q.num < 0))
  rw [← p1] at m1
  have e : rtD q⁻¹ = .agg [.ints .u32 (mg 1000000000 q⁻¹.num.natAbs), .bool (decide (q⁻¹.num < 0)), .ints .u32 (mg 1000000000 q.num.natAbs)] := by unfold rtD; rw [p2]
  rw [e]
  refine called_of_run tbOk 6 ⟨Tryz.func122, rfl, rfl, Nat.le_of_ble_eq_true rfl⟩ ?_
  (conv => whnf)
  refine V.st ?_
  refine ⟨(.take 0 (.take 1 (.take 2 (.take 3 (.take 4 (.take 6 (.take 7 (.take 8 (.ev (.cons 5 [8, 7, 6] (.take 9 (.ev (.cons 10 [] (.done) (.nil)))) (.nil))))))))))), ⟨by kernel_rfl, by kernel_rfl, by kernel_rfl⟩, .go ?_⟩
  (conv => whnf)
  refine V.st ?_
  repeat ((try ((with_reducible refine .ext ?_); (conv => whnf))); (with_reducible refine call_intro (r := ?_) ?_ ?_); rotate_left; (focus (first | exact (m1))); (conv => whnf); refine V.st ?_)
  exact Fin.of rfl
end Go.Proofs.YtplflfnfodghmaaGreatDoor
end
section
namespace Go.Proofs.YtplflfnfodghmaaGreatDoor
open Go Go.V Go.Nb
theorem off {p : Go.Program} {f : Nat} {ys : List D} {c : Bool} (hc : c = false) : c = true → Called p f ys (.int .i64 0) := fun h => by rw [hc] at h; cases h
def okP (s t : List UInt8) : Bool := okW s && okW t && decide (0 < wval t) && decide (Nat.gcd (wval s).natAbs (wval t).natAbs = 1)
def qv (s t : List UInt8) : Rat := Rat.divInt (wval s) (wval t)
theorem okP_of {s t : List UInt8} (h : okP s t = true) : okW s = true ∧ okW t = true ∧ 0 < wval t ∧ Nat.gcd (wval s).natAbs (wval t).natAbs = 1 := by
  unfold okP at h
  simp only [Bool.and_eq_true, decide_eq_true_eq] at h
  exact ⟨h.1.1.1, h.1.1.2, h.1.2, h.2⟩
theorem qv_parts {s t : List UInt8} (h : okP s t = true) : (qv s t).num = wval s ∧ (qv s t).den = (wval t).natAbs := by
  obtain ⟨h1, h2, h3, h4⟩ := okP_of h
  have e : qv s t = Rat.divInt (wval s) ((wval t).natAbs : Nat) := by unfold qv; congr 1; omega
  rw [e]
  exact divInt_cop _ _ (by omega) h4
theorem qv_size {s t : List UInt8} (h : okP s t = true) : Q9 67 (qv s t) := by
  obtain ⟨h1, h2, h3, h4⟩ := okP_of h
  obtain ⟨p1, p2⟩ := qv_parts h
  exact ⟨by rw [p1]; exact len9 (okW_len h1).2, by rw [p2]; exact len9 (okW_len h2).2⟩
theorem rtD_qv {s t : List UInt8} (h : okP s t = true) : rtD (qv s t) = .agg [.ints .u32 (mg 1000000000 (wval s).natAbs), .bool (decide (wval s < 0)), .ints .u32 (mg 1000000000 (wval t).natAbs)] := by
  obtain ⟨p1, p2⟩ := qv_parts h
  unfold rtD
  rw [p1, p2]
theorem read_ok (s t : List UInt8) (h : okP s t = true) : Called Tryz.prog 120 [.agg [.str s, .str t]] (.tup [rtD (qv s t), .bool true]) := by
  obtain ⟨h1, h2, h3, h4⟩ := okP_of h
  have l1 := okW_len h1
  have l2 := okW_len h2
  have k1 := len9 l1.2
  have k2 := len9 l2.2
  have c1 := wcheck_c s (by omega)
  have c2 := wcheck_c t (by omega)
  rw [h1, if_pos rfl] at c1
  rw [h2, if_pos rfl] at c2
  have n1 := number_c s h1
  have n2 := number_c t h2
  have s1 := sign_c (wval t)
  rw [Int.sign_eq_one_of_pos h3] at s1
  have g1 := gcd_c (wval s).natAbs (wval t).natAbs (by omega) (by omega)
  rw [h4] at g1
  have o1 := compare_c 1 1 (by decide) (by decide)
  rw [rtD_qv h]
  refine called_of_run tbOk 6 ⟨Tryz.func120, rfl, rfl, Nat.le_of_ble_eq_true rfl⟩ ?_
  (conv => whnf)
  refine V.st ?_
  repeat ((try ((with_reducible refine .ext ?_); (conv => whnf))); (with_reducible refine call_intro (r := ?_) ?_ ?_); rotate_left; (focus (first | exact (c1) | exact (c2))); (conv => whnf); refine V.st ?_)
  refine ⟨(.take 0 (.take 1 (.take 3 (.take 4 (.ev (.cons 2 [4, 3] (.ev (.cons 5 [] (.ev (.cons 6 [] (.ev (.cons 7 [] (.ev (.cons 8 [] (.ev (.cons 9 [] (.done) (.nil))) (.nil))) (.nil))) (.cons 7 [] (.ev (.cons 6 [] (.ev (.cons 8 [] (.ev (.cons 9 [] (.done) (.nil))) (.nil))) (.nil))) (.nil)))) (.cons 6 [4, 3] (.ev (.cons 5 [] (.ev (.cons 7 [] (.ev (.cons 8 [] (.ev (.cons 9 [] (.done) (.nil))) (.nil))) (.nil))) (.cons 7 [4, 3] (.ev (.cons 5 [] (.ev (.cons 8 [] (.ev (.cons 9 [] (.done) (.nil))) (.nil))) (.nil))) (.nil)))) (.cons 7 [4, 3] (.ev (.cons 5 [] (.ev (.cons 6 [] (.ev (.cons 8 [] (.ev (.cons 9 [] (.done) (.nil))) (.nil))) (.nil))) (.cons 6 [4, 3] (.ev (.cons 5 [] (.ev (.cons 8 [] (.ev (.cons 9 [] (.done) (.nil))) (.nil))) (.nil))) (.nil)))) (.nil))))) (.cons 6 [4, 3, 1, 0] (.ev (.cons 2 [4, 3] (.ev (.cons 5 [] (.ev (.cons 7 [] (.ev (.cons 8 [] (.ev (.cons 9 [] (.done) (.nil))) (.nil))) (.nil))) (.cons 7 [4, 3] (.ev (.cons 5 [] (.ev (.cons 8 [] (.ev (.cons 9 [] (.done) (.nil))) (.nil))) (.nil))) (.nil)))) (.cons 7 [4, 3, 1, 0] (.ev (.cons 2 [4, 3] (.ev (.cons 5 [] (.ev (.cons 8 [] (.ev (.cons 9 [] (.done) (.nil))) (.nil))) (.nil))) (.nil))) (.nil)))) (.cons 7 [4, 3, 1, 0] (.ev (.cons 2 [4, 3] (.ev (.cons 5 [] (.ev (.cons 6 [] (.ev (.cons 8 [] (.ev (.cons 9 [] (.done) (.nil))) (.nil))) (.nil))) (.cons 6 [4, 3] (.ev (.cons 5 [] (.ev (.cons 8 [] (.ev (.cons 9 [] (.done) (.nil))) (.nil))) (.nil))) (.nil)))) (.cons 6 [4, 3, 1, 0] (.ev (.cons 2 [4, 3] (.ev (.cons 5 [] (.ev (.cons 8 [] (.ev (.cons 9 [] (.done) (.nil))) (.nil))) (.nil))) (.nil))) (.nil)))) (.nil))))))))), ⟨by kernel_rfl, by kernel_rfl, by kernel_rfl⟩, ?_⟩
  refine drw_meet [(4, .box 4 0), (5, .box 5 0)] [(4, .box [.ints .u32 (mg 1000000000 (wval s).natAbs), .bool (decide (wval s < 0))]), (5, .box [.ints .u32 (mg 1000000000 (wval t).natAbs), .bool (decide (wval t < 0))])] ?_ ?_
  · (conv => whnf); (try simp only [Nat.zero_add])
    repeat' (first | exact V.wk | (refine V.s1 ?_; (try simp only [Nat.zero_add])) | ((with_reducible refine recheck_and ?_ ?_); (focus ((conv => whnf); (try simp only [Nat.zero_add]); (repeat (refine V.s1 ?_; (try simp only [Nat.zero_add]))); exact ⟨rfl⟩)); (conv => whnf); (try simp only [Nat.zero_add])) | ((try ((with_reducible refine .ext ?_); (conv => whnf); (try simp only [Nat.zero_add]))); (with_reducible refine call_intro (r := ?_) ?_ ?_); rotate_left; (focus (first | exact (n1) | exact (n2))); (conv => whnf); (try simp only [Nat.zero_add])) | (refine And.intro ?_ ?_ <;> (conv => whnf); (try simp only [Nat.zero_add])))
  (conv => whnf)
  refine V.st ?_
  repeat ((try ((with_reducible refine .ext ?_); (conv => whnf))); (with_reducible refine call_intro (r := ?_) ?_ ?_); rotate_left; (focus (first | exact (s1) | exact (g1) | exact (o1))); (conv => whnf); refine V.st ?_)
  exact Fin.of rfl
theorem read_no (s t : List UInt8) (h : okP s t = false) (hs : s.length ≤ 281474976710656) (ht : t.length ≤ 281474976710656) : Called Tryz.prog 120 [.agg [.str s, .str t]] (.tup [.agg [.any, .any, .any], .bool false]) := by
  have c1 := wcheck_c s hs
  have c2 := wcheck_c t ht
  by_cases h1 : okW s = true
  · rw [h1, if_pos rfl] at c1
    by_cases h2 : okW t = true
    · rw [h2, if_pos rfl] at c2
      have l1 := okW_len h1
      have l2 := okW_len h2
      have k1 := len9 l1.2
      have k2 := len9 l2.2
      have n1 := number_c s h1
      have n2 := number_c t h2
      have s1 := sign_c (wval t)
      have g1 := gcd_c (wval s).natAbs (wval t).natAbs (by omega) (by omega)
      have gl : (mg 1000000000 (Nat.gcd (wval s).natAbs (wval t).natAbs)).length ≤ 67 := by
        rcases Nat.eq_zero_or_pos (wval t).natAbs with e | e
        · rw [e, Nat.gcd_zero_right]; exact k1
        · exact Nat.le_trans (mg_len_mono (by omega) (Nat.gcd_le_right _ e)) k2
      have o1 := compare_c (Nat.gcd (wval s).natAbs (wval t).natAbs) 1 (by omega) (by decide)
      unfold okP at h
      rw [h1, h2, Bool.true_and, Bool.true_and] at h
      by_cases hp : 0 < wval t
      · rw [decide_eq_true hp, Bool.true_and, decide_eq_false_iff_not] at h
        rw [Int.sign_eq_one_of_pos hp] at s1
        refine called_of_run tbOk 6 ⟨Tryz.func120, rfl, rfl, Nat.le_of_ble_eq_true rfl⟩ ?_
        (conv => whnf)
        refine V.st ?_
        repeat ((try ((with_reducible refine .ext ?_); (conv => whnf))); (with_reducible refine call_intro (r := ?_) ?_ ?_); rotate_left; (focus (first | exact (c1) | exact (c2))); (conv => whnf); refine V.st ?_)
        refine ⟨(.take 0 (.take 1 (.take 3 (.take 4 (.ev (.cons 2 [4, 3] (.ev (.cons 5 [] (.ev (.cons 6 [] (.ev (.cons 7 [] (.ev (.cons 8 [] (.ev (.cons 9 [] (.done) (.nil))) (.nil))) (.nil))) (.cons 7 [] (.ev (.cons 6 [] (.ev (.cons 8 [] (.ev (.cons 9 [] (.done) (.nil))) (.nil))) (.nil))) (.nil)))) (.cons 6 [4, 3] (.ev (.cons 5 [] (.ev (.cons 7 [] (.ev (.cons 8 [] (.ev (.cons 9 [] (.done) (.nil))) (.nil))) (.nil))) (.cons 7 [4, 3] (.ev (.cons 5 [] (.ev (.cons 8 [] (.ev (.cons 9 [] (.done) (.nil))) (.nil))) (.nil))) (.nil)))) (.cons 7 [4, 3] (.ev (.cons 5 [] (.ev (.cons 6 [] (.ev (.cons 8 [] (.ev (.cons 9 [] (.done) (.nil))) (.nil))) (.nil))) (.cons 6 [4, 3] (.ev (.cons 5 [] (.ev (.cons 8 [] (.ev (.cons 9 [] (.done) (.nil))) (.nil))) (.nil))) (.nil)))) (.nil))))) (.cons 6 [4, 3, 1, 0] (.ev (.cons 2 [4, 3] (.ev (.cons 5 [] (.ev (.cons 7 [] (.ev (.cons 8 [] (.ev (.cons 9 [] (.done) (.nil))) (.nil))) (.nil))) (.cons 7 [4, 3] (.ev (.cons 5 [] (.ev (.cons 8 [] (.ev (.cons 9 [] (.done) (.nil))) (.nil))) (.nil))) (.nil)))) (.cons 7 [4, 3, 1, 0] (.ev (.cons 2 [4, 3] (.ev (.cons 5 [] (.ev (.cons 8 [] (.ev (.cons 9 [] (.done) (.nil))) (.nil))) (.nil))) (.nil))) (.nil)))) (.cons 7 [4, 3, 1, 0] (.ev (.cons 2 [4, 3] (.ev (.cons 5 [] (.ev (.cons 6 [] (.ev (.cons 8 [] (.ev (.cons 9 [] (.done) (.nil))) (.nil))) (.nil))) (.cons 6 [4, 3] (.ev (.cons 5 [] (.ev (.cons 8 [] (.ev (.cons 9 [] (.done) (.nil))) (.nil))) (.nil))) (.nil)))) (.cons 6 [4, 3, 1, 0] (.ev (.cons 2 [4, 3] (.ev (.cons 5 [] (.ev (.cons 8 [] (.ev (.cons 9 [] (.done) (.nil))) (.nil))) (.nil))) (.nil))) (.nil)))) (.nil))))))))), ⟨by kernel_rfl, by kernel_rfl, by kernel_rfl⟩, ?_⟩
        refine drw_meet [(4, .box 4 0), (5, .box 5 0)] [(4, .box [.ints .u32 (mg 1000000000 (wval s).natAbs), .bool (decide (wval s < 0))]), (5, .box [.ints .u32 (mg 1000000000 (wval t).natAbs), .bool (decide (wval t < 0))])] ?_ ?_
        · (conv => whnf); (try simp only [Nat.zero_add])
          repeat' (first | exact V.wk | (refine V.s1 ?_; (try simp only [Nat.zero_add])) | ((with_reducible refine recheck_and ?_ ?_); (focus ((conv => whnf); (try simp only [Nat.zero_add]); (repeat (refine V.s1 ?_; (try simp only [Nat.zero_add]))); exact ⟨rfl⟩)); (conv => whnf); (try simp only [Nat.zero_add])) | ((try ((with_reducible refine .ext ?_); (conv => whnf); (try simp only [Nat.zero_add]))); (with_reducible refine call_intro (r := ?_) ?_ ?_); rotate_left; (focus (first | exact (n1) | exact (n2))); (conv => whnf); (try simp only [Nat.zero_add])) | (refine And.intro ?_ ?_ <;> (conv => whnf); (try simp only [Nat.zero_add])))
        (conv => whnf)
        refine V.st ?_
        repeat ((try ((with_reducible refine .ext ?_); (conv => whnf))); (with_reducible refine call_intro (r := ?_) ?_ ?_); rotate_left; (focus (first | exact (s1) | exact (g1) | exact (o1))); (conv => whnf); refine V.st ?_)
        refine Cnd.split (CondB.mk (fun hq => ?_) (fun hq => ?_))
        · (conv => whnf)
          refine V.st ?_
          exact Fin.tup ⟨Fin.agg ⟨Fin.any' _, Fin.any' _, Fin.any' _, trivial⟩, Fin.of rfl, trivial⟩
        · exfalso
          simp only [Bool.or_eq_false_iff, decide_eq_false_iff_not, Decidable.not_not] at hq
          apply h
          have h9 := Int.sign_eq_zero_iff_zero.1 hq.2
          omega
      · have hs1 : (wval t).sign = 0 ∨ (wval t).sign = -1 := by
          rcases (by omega : wval t = 0 ∨ wval t < 0) with e | e
          · rw [e]; exact .inl rfl
          · exact .inr (Int.sign_eq_neg_one_of_neg e)
        rcases hs1 with e | e
        all_goals
          rw [e] at s1
          refine called_of_run tbOk 6 ⟨Tryz.func120, rfl, rfl, Nat.le_of_ble_eq_true rfl⟩ ?_
          (conv => whnf)
          refine V.st ?_
          repeat ((try ((with_reducible refine .ext ?_); (conv => whnf))); (with_reducible refine call_intro (r := ?_) ?_ ?_); rotate_left; (focus (first | exact (c1) | exact (c2))); (conv => whnf); refine V.st ?_)
          refine ⟨(.take 0 (.take 1 (.take 3 (.take 4 (.ev (.cons 2 [4, 3] (.ev (.cons 5 [] (.ev (.cons 6 [] (.ev (.cons 7 [] (.ev (.cons 8 [] (.ev (.cons 9 [] (.done) (.nil))) (.nil))) (.nil))) (.cons 7 [] (.ev (.cons 6 [] (.ev (.cons 8 [] (.ev (.cons 9 [] (.done) (.nil))) (.nil))) (.nil))) (.nil)))) (.cons 6 [4, 3] (.ev (.cons 5 [] (.ev (.cons 7 [] (.ev (.cons 8 [] (.ev (.cons 9 [] (.done) (.nil))) (.nil))) (.nil))) (.cons 7 [4, 3] (.ev (.cons 5 [] (.ev (.cons 8 [] (.ev (.cons 9 [] (.done) (.nil))) (.nil))) (.nil))) (.nil)))) (.cons 7 [4, 3] (.ev (.cons 5 [] (.ev (.cons 6 [] (.ev (.cons 8 [] (.ev (.cons 9 [] (.done) (.nil))) (.nil))) (.nil))) (.cons 6 [4, 3] (.ev (.cons 5 [] (.ev (.cons 8 [] (.ev (.cons 9 [] (.done) (.nil))) (.nil))) (.nil))) (.nil)))) (.nil))))) (.cons 6 [4, 3, 1, 0] (.ev (.cons 2 [4, 3] (.ev (.cons 5 [] (.ev (.cons 7 [] (.ev (.cons 8 [] (.ev (.cons 9 [] (.done) (.nil))) (.nil))) (.nil))) (.cons 7 [4, 3] (.ev (.cons 5 [] (.ev (.cons 8 [] (.ev (.cons 9 [] (.done) (.nil))) (.nil))) (.nil))) (.nil)))) (.cons 7 [4, 3, 1, 0] (.ev (.cons 2 [4, 3] (.ev (.cons 5 [] (.ev (.cons 8 [] (.ev (.cons 9 [] (.done) (.nil))) (.nil))) (.nil))) (.nil))) (.nil)))) (.cons 7 [4, 3, 1, 0] (.ev (.cons 2 [4, 3] (.ev (.cons 5 [] (.ev (.cons 6 [] (.ev (.cons 8 [] (.ev (.cons 9 [] (.done) (.nil))) (.nil))) (.nil))) (.cons 6 [4, 3] (.ev (.cons 5 [] (.ev (.cons 8 [] (.ev (.cons 9 [] (.done) (.nil))) (.nil))) (.nil))) (.nil)))) (.cons 6 [4, 3, 1, 0] (.ev (.cons 2 [4, 3] (.ev (.cons 5 [] (.ev (.cons 8 [] (.ev (.cons 9 [] (.done) (.nil))) (.nil))) (.nil))) (.nil))) (.nil)))) (.nil))))))))), ⟨by kernel_rfl, by kernel_rfl, by kernel_rfl⟩, ?_⟩
          refine drw_meet [(4, .box 4 0), (5, .box 5 0)] [(4, .box [.ints .u32 (mg 1000000000 (wval s).natAbs), .bool (decide (wval s < 0))]), (5, .box [.ints .u32 (mg 1000000000 (wval t).natAbs), .bool (decide (wval t < 0))])] ?_ ?_
          · (conv => whnf); (try simp only [Nat.zero_add])
            repeat' (first | exact V.wk | (refine V.s1 ?_; (try simp only [Nat.zero_add])) | ((with_reducible refine recheck_and ?_ ?_); (focus ((conv => whnf); (try simp only [Nat.zero_add]); (repeat (refine V.s1 ?_; (try simp only [Nat.zero_add]))); exact ⟨rfl⟩)); (conv => whnf); (try simp only [Nat.zero_add])) | ((try ((with_reducible refine .ext ?_); (conv => whnf); (try simp only [Nat.zero_add]))); (with_reducible refine call_intro (r := ?_) ?_ ?_); rotate_left; (focus (first | exact (n1) | exact (n2))); (conv => whnf); (try simp only [Nat.zero_add])) | (refine And.intro ?_ ?_ <;> (conv => whnf); (try simp only [Nat.zero_add])))
          (conv => whnf)
          refine V.st ?_
          repeat ((try ((with_reducible refine .ext ?_); (conv => whnf))); (with_reducible refine call_intro (r := ?_) ?_ ?_); rotate_left; (focus (first | exact (s1) | exact (g1) | exact (o1))); (conv => whnf); refine V.st ?_)
          refine ⟨.int .i64 0, off rfl, ?_⟩
          (conv => whnf)
          refine V.st ?_
          exact Fin.tup ⟨Fin.agg ⟨Fin.any' _, Fin.any' _, Fin.any' _, trivial⟩, Fin.of rfl, trivial⟩
    · rw [if_neg h2] at c2
      refine called_of_run tbOk 6 ⟨Tryz.func120, rfl, rfl, Nat.le_of_ble_eq_true rfl⟩ ?_
      (conv => whnf)
      refine V.st ?_
      repeat ((try ((with_reducible refine .ext ?_); (conv => whnf))); (with_reducible refine call_intro (r := ?_) ?_ ?_); rotate_left; (focus (first | exact (c1) | exact (c2))); (conv => whnf); refine V.st ?_)
      exact Fin.tup ⟨Fin.agg ⟨Fin.any' _, Fin.any' _, Fin.any' _, trivial⟩, Fin.of rfl, trivial⟩
  · rw [if_neg h1] at c1
    refine called_of_run tbOk 6 ⟨Tryz.func120, rfl, rfl, Nat.le_of_ble_eq_true rfl⟩ ?_
    (conv => whnf)
    refine V.st ?_
    repeat ((try ((with_reducible refine .ext ?_); (conv => whnf))); (with_reducible refine call_intro (r := ?_) ?_ ?_); rotate_left; (focus (first | exact (c1) | exact (c2))); (conv => whnf); refine V.st ?_)
    refine Cnd.split (CondB.mk (fun hq => ?_) (fun hq => ?_))
    · (conv => whnf)
      refine V.st ?_
      exact Fin.tup ⟨Fin.agg ⟨Fin.any' _, Fin.any' _, Fin.any' _, trivial⟩, Fin.of rfl, trivial⟩
    · simp at hq
theorem qsize {s t : List UInt8} (h : okP s t = true) : Q9 20000000 (qv s t) := (qv_size h).mono (by omega)
theorem qordS {s t : List UInt8} (h : okP s t = true) : S9 40000000 (qv s t).num ∧ (mg 1000000000 (qv s t).den).length ≤ 40000000 := ⟨(qv_size h).1.mono (by omega), Nat.le_trans (qv_size h).2 (by omega)⟩
theorem fcmp_ok (s t u v : List UInt8) (h : okP s t = true) (g : okP u v = true) : Called Tryz.prog 100 [.agg [.str s, .str t], .agg [.str u, .str v]] (.tup [.int .i64 (ordQ (qv s t) (qv u v)), .int .i64 0]) := by
  have r1 := read_ok s t h
  have r2 := read_ok u v g
  have o := order_r (qv s t) (qv u v) (qordS h).1 (qordS g).1 (qordS h).2 (qordS g).2
  have ap : Called Tryz.prog 146 [.agg [.str s, .str t], .agg [.str u, .str v], .fn 147 [] []] (.tup [.int .i64 (ordQ (qv s t) (qv u v)), .int .i64 0]) := by
    refine called_of_run tbOk 6 ⟨Tryz.func146, rfl, rfl, Nat.le_of_ble_eq_true rfl⟩ ?_
    (conv => whnf)
    refine V.st ?_
    repeat ((try ((with_reducible refine .ext ?_); (conv => whnf))); (with_reducible refine call_intro (r := ?_) ?_ ?_); rotate_left; (focus (first | exact (r1) | exact (r2) | exact (o))); (conv => whnf); refine V.st ?_)
    exact Fin.of rfl
  refine called_of_run tbOk 6 ⟨Tryz.func100, rfl, rfl, Nat.le_of_ble_eq_true rfl⟩ ?_
  (conv => whnf)
  refine V.st ?_
  repeat ((try ((with_reducible refine .ext ?_); (conv => whnf))); (with_reducible refine call_intro (r := ?_) ?_ ?_); rotate_left; (focus (first | exact (ap))); (conv => whnf); refine V.st ?_)
  exact Fin.of rfl
end Go.Proofs.YtplflfnfodghmaaGreatDoor
end
section
namespace Go.Proofs.YtplflfnfodghmaaGreatDoor
open Go Go.V Go.Nb
def vb (lo hi : Int) : Bool := decide (-1000000000000000000 ≤ lo) && decide (lo ≤ hi) && decide (hi ≤ 1000000000000000000)
def bD (r : Int × Int × Int) : D := .tup [.agg [.int .i64 r.1, .int .i64 r.2.1], .int .i64 r.2.2]
def mk (lo hi : Int) : Int × Int × Int := if vb lo hi = true then (lo, hi, 0) else (0, 0, 6)
theorem vb_iff {lo hi : Int} : vb lo hi = true ↔ -1000000000000000000 ≤ lo ∧ lo ≤ hi ∧ hi ≤ 1000000000000000000 := by
  unfold vb; simp only [Bool.and_eq_true, decide_eq_true_eq, and_assoc]
theorem valid_c (lo hi : Int) : Called Tryz.prog 81 [.int .i64 lo, .int .i64 hi] (.bool (vb lo hi)) := by
  refine called_of_run tbOk 6 ⟨Tryz.func81, rfl, rfl, Nat.le_of_ble_eq_true rfl⟩ ?_
  (conv => whnf)
  refine V.st ?_
  exact Fin.of rfl
theorem made_b (lo hi : Int) : Called Tryz.prog 68 [.int .i64 lo, .int .i64 hi] (bD (mk lo hi)) := by
  have h := valid_c lo hi
  unfold mk
  generalize vb lo hi = v at *
  refine called_of_run tbOk 6 ⟨Tryz.func68, rfl, rfl, Nat.le_of_ble_eq_true rfl⟩ ?_
  (conv => whnf)
  refine V.st ?_
  repeat ((try ((with_reducible refine .ext ?_); (conv => whnf))); (with_reducible refine call_intro (r := ?_) ?_ ?_); rotate_left; (focus (first | exact (h))); (conv => whnf); refine V.st ?_)
  refine Cnd.split (CondB.mk (fun hq => ?_) (fun hq => ?_))
  · simp only [Bool.not_eq_true'] at hq
    subst hq
    (conv => whnf)
    refine V.st ?_
    exact Fin.of rfl
  · simp only [Bool.not_eq_false'] at hq
    subst hq
    (conv => whnf)
    refine V.st ?_
    exact Fin.of rfl
theorem ckb1_ok (g : Nat) (p q : Int) (x y e : Int) (n : Nat) (f : Nat → List D) (a c : Nat → Int) (hf : ∀ j, j < n → f j = [.int .i64 (a j), .int .i64 (c j)]) (hn : n < 1000)
    (hv : ∀ j, j < n → vb (a j) (c j) = true) (hg : Called Tryz.prog g [.ref [.int .i64 p, .int .i64 q]] (bD (x, y, e))) :
    Called Tryz.prog 66 [.fn g [] [.ref [.int .i64 p, .int .i64 q]], .slf 2 n f] (bD (x, y, e)) := by
  refine called_of_run tbOk 6 ⟨Tryz.func66, rfl, rfl, Nat.le_of_ble_eq_true rfl⟩ ?_
  (conv => whnf)
  refine V.st ?_
  refine lp_any (0 : Nat) (fun k => k ≤ n) (fun k => n - k) (fun k => [(11, .int .i64 k)]) (fun _ => []) ?_ ?_ ?_
  · exact V.wk
  · exact Nat.zero_le _
  intro k hk
  have hkc : ((k : Int) + 1) = ((k + 1 : Nat) : Int) := by omega
  have hfk := hf k
  have hvk := hv k
  have hvc := valid_c (a k) (c k)
  (conv => whnf)
  refine V.st ?_
  refine Cnd.split (CondB.mk (fun hq => ?_) (fun hq => ?_))
  · rw [decide_eq_true_eq] at hq
    rw [hvk (by omega)] at hvc
    (conv => whnf)
    (try simp only [Int.toNat_natCast, hfk (by omega), hkc])
    repeat (first | (refine V.s1 ?_; (try simp only [Int.toNat_natCast, hfk (by omega), hkc])) | ((with_reducible refine recheck_and ?_ ?_); (focus ((conv => whnf); (try simp only [Int.toNat_natCast, hfk (by omega), hkc]); (repeat (refine V.s1 ?_; (try simp only [Int.toNat_natCast, hfk (by omega), hkc]))); exact ⟨rfl⟩)); (conv => whnf); (try simp only [Int.toNat_natCast, hfk (by omega), hkc])))
    (conv => whnf)
    refine And.intro (fun _ => ⟨by omega, by omega⟩) ?_
    (conv => whnf)
    (try simp only [hkc])
    repeat (first | (refine V.s1 ?_; (try simp only [hkc])) | ((with_reducible refine recheck_and ?_ ?_); (focus ((conv => whnf); (try simp only [hkc]); (repeat (refine V.s1 ?_; (try simp only [hkc]))); exact ⟨rfl⟩)); (conv => whnf); (try simp only [hkc])) | ((try ((with_reducible refine .ext ?_); (conv => whnf); (try simp only [hkc]))); (with_reducible refine call_intro (r := ?_) ?_ ?_); rotate_left; (focus (first | exact (hvc))); (conv => whnf); (try simp only [hkc])))
    exact ⟨k + 1, by omega, by omega, V.wk⟩
  · rw [decide_eq_false_iff_not] at hq
    (conv => whnf)
    refine V.st ?_
    repeat ((try ((with_reducible refine .ext ?_); (conv => whnf))); (with_reducible refine call_intro (r := ?_) ?_ ?_); rotate_left; (focus (first | exact (hg))); (conv => whnf); refine V.st ?_)
    exact Fin.of rfl
theorem ckb1_no (g : Nat) (p q : Int) (x y e : Int) (n : Nat) (f : Nat → List D) (a c : Nat → Int) (hf : ∀ j, j < n → f j = [.int .i64 (a j), .int .i64 (c j)]) (hn : n < 1000)
    (hv : ∃ j, j < n ∧ vb (a j) (c j) = false) :
    Called Tryz.prog 66 [.fn g [] [.ref [.int .i64 p, .int .i64 q]], .slf 2 n f] (bD (0, 0, 30)) := by
  refine called_of_run tbOk 6 ⟨Tryz.func66, rfl, rfl, Nat.le_of_ble_eq_true rfl⟩ ?_
  (conv => whnf)
  refine V.st ?_
  refine lp_any (0 : Nat) (fun k => k ≤ n ∧ ∀ j, j < k → vb (a j) (c j) = true) (fun k => n - k) (fun k => [(11, .int .i64 k)]) (fun _ => []) ?_ ?_ ?_
  · exact V.wk
  · exact ⟨Nat.zero_le _, fun j hj => by omega⟩
  intro k hk
  have hkc : ((k : Int) + 1) = ((k + 1 : Nat) : Int) := by omega
  have hfk := hf k
  have hvc := valid_c (a k) (c k)
  (conv => whnf)
  refine V.st ?_
  refine Cnd.split (CondB.mk (fun hq => ?_) (fun hq => ?_))
  · rw [decide_eq_true_eq] at hq
    generalize hvv : vb (a k) (c k) = v at *
    (conv => whnf)
    (try simp only [Int.toNat_natCast, hfk (by omega), hkc])
    repeat (first | (refine V.s1 ?_; (try simp only [Int.toNat_natCast, hfk (by omega), hkc])) | ((with_reducible refine recheck_and ?_ ?_); (focus ((conv => whnf); (try simp only [Int.toNat_natCast, hfk (by omega), hkc]); (repeat (refine V.s1 ?_; (try simp only [Int.toNat_natCast, hfk (by omega), hkc]))); exact ⟨rfl⟩)); (conv => whnf); (try simp only [Int.toNat_natCast, hfk (by omega), hkc])))
    (conv => whnf)
    refine And.intro (fun _ => ⟨by omega, by omega⟩) ?_
    (conv => whnf)
    (try simp only [hkc])
    repeat (first | (refine V.s1 ?_; (try simp only [hkc])) | ((with_reducible refine recheck_and ?_ ?_); (focus ((conv => whnf); (try simp only [hkc]); (repeat (refine V.s1 ?_; (try simp only [hkc]))); exact ⟨rfl⟩)); (conv => whnf); (try simp only [hkc])) | ((try ((with_reducible refine .ext ?_); (conv => whnf); (try simp only [hkc]))); (with_reducible refine call_intro (r := ?_) ?_ ?_); rotate_left; (focus (first | exact (hvc))); (conv => whnf); (try simp only [hkc])))
    refine Cnd.split (CondB.mk (fun hz => ?_) (fun hz => ?_))
    · (conv => whnf)
      (try simp only [hkc])
      repeat (first | (refine V.s1 ?_; (try simp only [hkc])) | ((with_reducible refine recheck_and ?_ ?_); (focus ((conv => whnf); (try simp only [hkc]); (repeat (refine V.s1 ?_; (try simp only [hkc]))); exact ⟨rfl⟩)); (conv => whnf); (try simp only [hkc])))
      exact Fin.of rfl
    · simp only [Bool.not_eq_false'] at hz
      (conv => whnf)
      (try simp only [hkc])
      repeat (first | (refine V.s1 ?_; (try simp only [hkc])) | ((with_reducible refine recheck_and ?_ ?_); (focus ((conv => whnf); (try simp only [hkc]); (repeat (refine V.s1 ?_; (try simp only [hkc]))); exact ⟨rfl⟩)); (conv => whnf); (try simp only [hkc])))
      exact ⟨k + 1, ⟨by omega, fun j hj => by
        rcases Nat.lt_or_ge j k with h | h
        · exact hk.2 j h
        · rw [show j = k by omega, hvv, hz]⟩, by omega, V.wk⟩
  · rw [decide_eq_false_iff_not] at hq
    obtain ⟨j, hj, hv⟩ := hv
    rw [hk.2 j (by omega)] at hv
    cases hv
theorem cki1_ok (g : Nat) (p q : Int) (x e : Int) (n : Nat) (f : Nat → List D) (a c : Nat → Int) (hf : ∀ j, j < n → f j = [.int .i64 (a j), .int .i64 (c j)]) (hn : n < 1000)
    (hv : ∀ j, j < n → vb (a j) (c j) = true) (hg : Called Tryz.prog g [.ref [.int .i64 p, .int .i64 q]] (.tup [.int .i64 x, .int .i64 e])) :
    Called Tryz.prog 87 [.fn g [] [.ref [.int .i64 p, .int .i64 q]], .slf 2 n f] (.tup [.int .i64 x, .int .i64 e]) := by
  refine called_of_run tbOk 6 ⟨Tryz.func87, rfl, rfl, Nat.le_of_ble_eq_true rfl⟩ ?_
  (conv => whnf)
  refine V.st ?_
  refine lp_any (0 : Nat) (fun k => k ≤ n) (fun k => n - k) (fun k => [(11, .int .i64 k)]) (fun _ => []) ?_ ?_ ?_
  · exact V.wk
  · exact Nat.zero_le _
  intro k hk
  have hkc : ((k : Int) + 1) = ((k + 1 : Nat) : Int) := by omega
  have hfk := hf k
  have hvk := hv k
  have hvc := valid_c (a k) (c k)
  (conv => whnf)
  refine V.st ?_
  refine Cnd.split (CondB.mk (fun hq => ?_) (fun hq => ?_))
  · rw [decide_eq_true_eq] at hq
    rw [hvk (by omega)] at hvc
    (conv => whnf)
    (try simp only [Int.toNat_natCast, hfk (by omega), hkc])
    repeat (first | (refine V.s1 ?_; (try simp only [Int.toNat_natCast, hfk (by omega), hkc])) | ((with_reducible refine recheck_and ?_ ?_); (focus ((conv => whnf); (try simp only [Int.toNat_natCast, hfk (by omega), hkc]); (repeat (refine V.s1 ?_; (try simp only [Int.toNat_natCast, hfk (by omega), hkc]))); exact ⟨rfl⟩)); (conv => whnf); (try simp only [Int.toNat_natCast, hfk (by omega), hkc])))
    (conv => whnf)
    refine And.intro (fun _ => ⟨by omega, by omega⟩) ?_
    (conv => whnf)
    (try simp only [hkc])
    repeat (first | (refine V.s1 ?_; (try simp only [hkc])) | ((with_reducible refine recheck_and ?_ ?_); (focus ((conv => whnf); (try simp only [hkc]); (repeat (refine V.s1 ?_; (try simp only [hkc]))); exact ⟨rfl⟩)); (conv => whnf); (try simp only [hkc])) | ((try ((with_reducible refine .ext ?_); (conv => whnf); (try simp only [hkc]))); (with_reducible refine call_intro (r := ?_) ?_ ?_); rotate_left; (focus (first | exact (hvc))); (conv => whnf); (try simp only [hkc])))
    exact ⟨k + 1, by omega, by omega, V.wk⟩
  · rw [decide_eq_false_iff_not] at hq
    (conv => whnf)
    refine V.st ?_
    repeat ((try ((with_reducible refine .ext ?_); (conv => whnf))); (with_reducible refine call_intro (r := ?_) ?_ ?_); rotate_left; (focus (first | exact (hg))); (conv => whnf); refine V.st ?_)
    exact Fin.of rfl
theorem cki1_no (g : Nat) (p q : Int) (x e : Int) (n : Nat) (f : Nat → List D) (a c : Nat → Int) (hf : ∀ j, j < n → f j = [.int .i64 (a j), .int .i64 (c j)]) (hn : n < 1000)
    (hv : ∃ j, j < n ∧ vb (a j) (c j) = false) :
    Called Tryz.prog 87 [.fn g [] [.ref [.int .i64 p, .int .i64 q]], .slf 2 n f] (.tup [.int .i64 0, .int .i64 30]) := by
  refine called_of_run tbOk 6 ⟨Tryz.func87, rfl, rfl, Nat.le_of_ble_eq_true rfl⟩ ?_
  (conv => whnf)
  refine V.st ?_
  refine lp_any (0 : Nat) (fun k => k ≤ n ∧ ∀ j, j < k → vb (a j) (c j) = true) (fun k => n - k) (fun k => [(11, .int .i64 k)]) (fun _ => []) ?_ ?_ ?_
  · exact V.wk
  · exact ⟨Nat.zero_le _, fun j hj => by omega⟩
  intro k hk
  have hkc : ((k : Int) + 1) = ((k + 1 : Nat) : Int) := by omega
  have hfk := hf k
  have hvc := valid_c (a k) (c k)
  (conv => whnf)
  refine V.st ?_
  refine Cnd.split (CondB.mk (fun hq => ?_) (fun hq => ?_))
  · rw [decide_eq_true_eq] at hq
    generalize hvv : vb (a k) (c k) = v at *
    (conv => whnf)
    (try simp only [Int.toNat_natCast, hfk (by omega), hkc])
    repeat (first | (refine V.s1 ?_; (try simp only [Int.toNat_natCast, hfk (by omega), hkc])) | ((with_reducible refine recheck_and ?_ ?_); (focus ((conv => whnf); (try simp only [Int.toNat_natCast, hfk (by omega), hkc]); (repeat (refine V.s1 ?_; (try simp only [Int.toNat_natCast, hfk (by omega), hkc]))); exact ⟨rfl⟩)); (conv => whnf); (try simp only [Int.toNat_natCast, hfk (by omega), hkc])))
    (conv => whnf)
    refine And.intro (fun _ => ⟨by omega, by omega⟩) ?_
    (conv => whnf)
    (try simp only [hkc])
    repeat (first | (refine V.s1 ?_; (try simp only [hkc])) | ((with_reducible refine recheck_and ?_ ?_); (focus ((conv => whnf); (try simp only [hkc]); (repeat (refine V.s1 ?_; (try simp only [hkc]))); exact ⟨rfl⟩)); (conv => whnf); (try simp only [hkc])) | ((try ((with_reducible refine .ext ?_); (conv => whnf); (try simp only [hkc]))); (with_reducible refine call_intro (r := ?_) ?_ ?_); rotate_left; (focus (first | exact (hvc))); (conv => whnf); (try simp only [hkc])))
    refine Cnd.split (CondB.mk (fun hz => ?_) (fun hz => ?_))
    · (conv => whnf)
      (try simp only [hkc])
      repeat (first | (refine V.s1 ?_; (try simp only [hkc])) | ((with_reducible refine recheck_and ?_ ?_); (focus ((conv => whnf); (try simp only [hkc]); (repeat (refine V.s1 ?_; (try simp only [hkc]))); exact ⟨rfl⟩)); (conv => whnf); (try simp only [hkc])))
      exact Fin.of rfl
    · simp only [Bool.not_eq_false'] at hz
      (conv => whnf)
      (try simp only [hkc])
      repeat (first | (refine V.s1 ?_; (try simp only [hkc])) | ((with_reducible refine recheck_and ?_ ?_); (focus ((conv => whnf); (try simp only [hkc]); (repeat (refine V.s1 ?_; (try simp only [hkc]))); exact ⟨rfl⟩)); (conv => whnf); (try simp only [hkc])))
      exact ⟨k + 1, ⟨by omega, fun j hj => by
        rcases Nat.lt_or_ge j k with h | h
        · exact hk.2 j h
        · rw [show j = k by omega, hvv, hz]⟩, by omega, V.wk⟩
  · rw [decide_eq_false_iff_not] at hq
    obtain ⟨j, hj, hv⟩ := hv
    rw [hk.2 j (by omega)] at hv
    cases hv
theorem ckb2_ok (g : Nat) (p q p2 q2 : Int) (x y e : Int) (n : Nat) (f : Nat → List D) (a c : Nat → Int) (hf : ∀ j, j < n → f j = [.int .i64 (a j), .int .i64 (c j)]) (hn : n < 1000)
    (hv : ∀ j, j < n → vb (a j) (c j) = true) (hg : Called Tryz.prog g [.ref [.int .i64 p, .int .i64 q], .ref [.int .i64 p2, .int .i64 q2]] (bD (x, y, e))) :
    Called Tryz.prog 66 [.fn g [] [.ref [.int .i64 p, .int .i64 q], .ref [.int .i64 p2, .int .i64 q2]], .slf 2 n f] (bD (x, y, e)) := by
  refine called_of_run tbOk 6 ⟨Tryz.func66, rfl, rfl, Nat.le_of_ble_eq_true rfl⟩ ?_
  (conv => whnf)
  refine V.st ?_
  refine lp_any (0 : Nat) (fun k => k ≤ n) (fun k => n - k) (fun k => [(11, .int .i64 k)]) (fun _ => []) ?_ ?_ ?_
  · exact V.wk
  · exact Nat.zero_le _
  intro k hk
  have hkc : ((k : Int) + 1) = ((k + 1 : Nat) : Int) := by omega
  have hfk := hf k
  have hvk := hv k
  have hvc := valid_c (a k) (c k)
  (conv => whnf)
  refine V.st ?_
  refine Cnd.split (CondB.mk (fun hq => ?_) (fun hq => ?_))
  · rw [decide_eq_true_eq] at hq
    rw [hvk (by omega)] at hvc
    (conv => whnf)
    (try simp only [Int.toNat_natCast, hfk (by omega), hkc])
    repeat (first | (refine V.s1 ?_; (try simp only [Int.toNat_natCast, hfk (by omega), hkc])) | ((with_reducible refine recheck_and ?_ ?_); (focus ((conv => whnf); (try simp only [Int.toNat_natCast, hfk (by omega), hkc]); (repeat (refine V.s1 ?_; (try simp only [Int.toNat_natCast, hfk (by omega), hkc]))); exact ⟨rfl⟩)); (conv => whnf); (try simp only [Int.toNat_natCast, hfk (by omega), hkc])))
    (conv => whnf)
    refine And.intro (fun _ => ⟨by omega, by omega⟩) ?_
    (conv => whnf)
    (try simp only [hkc])
    repeat (first | (refine V.s1 ?_; (try simp only [hkc])) | ((with_reducible refine recheck_and ?_ ?_); (focus ((conv => whnf); (try simp only [hkc]); (repeat (refine V.s1 ?_; (try simp only [hkc]))); exact ⟨rfl⟩)); (conv => whnf); (try simp only [hkc])) | ((try ((with_reducible refine .ext ?_); (conv => whnf); (try simp only [hkc]))); (with_reducible refine call_intro (r := ?_) ?_ ?_); rotate_left; (focus (first | exact (hvc))); (conv => whnf); (try simp only [hkc])))
    exact ⟨k + 1, by omega, by omega, V.wk⟩
  · rw [decide_eq_false_iff_not] at hq
    (conv => whnf)
    refine V.st ?_
    repeat ((try ((with_reducible refine .ext ?_); (conv => whnf))); (with_reducible refine call_intro (r := ?_) ?_ ?_); rotate_left; (focus (first | exact (hg))); (conv => whnf); refine V.st ?_)
    exact Fin.of rfl
theorem ckb2_no (g : Nat) (p q p2 q2 : Int) (x y e : Int) (n : Nat) (f : Nat → List D) (a c : Nat → Int) (hf : ∀ j, j < n → f j = [.int .i64 (a j), .int .i64 (c j)]) (hn : n < 1000)
    (hv : ∃ j, j < n ∧ vb (a j) (c j) = false) :
    Called Tryz.prog 66 [.fn g [] [.ref [.int .i64 p, .int .i64 q], .ref [.int .i64 p2, .int .i64 q2]], .slf 2 n f] (bD (0, 0, 30)) := by
  refine called_of_run tbOk 6 ⟨Tryz.func66, rfl, rfl, Nat.le_of_ble_eq_true rfl⟩ ?_
  (conv => whnf)
  refine V.st ?_
  refine lp_any (0 : Nat) (fun k => k ≤ n ∧ ∀ j, j < k → vb (a j) (c j) = true) (fun k => n - k) (fun k => [(11, .int .i64 k)]) (fun _ => []) ?_ ?_ ?_
  · exact V.wk
  · exact ⟨Nat.zero_le _, fun j hj => by omega⟩
  intro k hk
  have hkc : ((k : Int) + 1) = ((k + 1 : Nat) : Int) := by omega
  have hfk := hf k
  have hvc := valid_c (a k) (c k)
  (conv => whnf)
  refine V.st ?_
  refine Cnd.split (CondB.mk (fun hq => ?_) (fun hq => ?_))
  · rw [decide_eq_true_eq] at hq
    generalize hvv : vb (a k) (c k) = v at *
    (conv => whnf)
    (try simp only [Int.toNat_natCast, hfk (by omega), hkc])
    repeat (first | (refine V.s1 ?_; (try simp only [Int.toNat_natCast, hfk (by omega), hkc])) | ((with_reducible refine recheck_and ?_ ?_); (focus ((conv => whnf); (try simp only [Int.toNat_natCast, hfk (by omega), hkc]); (repeat (refine V.s1 ?_; (try simp only [Int.toNat_natCast, hfk (by omega), hkc]))); exact ⟨rfl⟩)); (conv => whnf); (try simp only [Int.toNat_natCast, hfk (by omega), hkc])))
    (conv => whnf)
    refine And.intro (fun _ => ⟨by omega, by omega⟩) ?_
    (conv => whnf)
    (try simp only [hkc])
    repeat (first | (refine V.s1 ?_; (try simp only [hkc])) | ((with_reducible refine recheck_and ?_ ?_); (focus ((conv => whnf); (try simp only [hkc]); (repeat (refine V.s1 ?_; (try simp only [hkc]))); exact ⟨rfl⟩)); (conv => whnf); (try simp only [hkc])) | ((try ((with_reducible refine .ext ?_); (conv => whnf); (try simp only [hkc]))); (with_reducible refine call_intro (r := ?_) ?_ ?_); rotate_left; (focus (first | exact (hvc))); (conv => whnf); (try simp only [hkc])))
    refine Cnd.split (CondB.mk (fun hz => ?_) (fun hz => ?_))
    · (conv => whnf)
      (try simp only [hkc])
      repeat (first | (refine V.s1 ?_; (try simp only [hkc])) | ((with_reducible refine recheck_and ?_ ?_); (focus ((conv => whnf); (try simp only [hkc]); (repeat (refine V.s1 ?_; (try simp only [hkc]))); exact ⟨rfl⟩)); (conv => whnf); (try simp only [hkc])))
      exact Fin.of rfl
    · simp only [Bool.not_eq_false'] at hz
      (conv => whnf)
      (try simp only [hkc])
      repeat (first | (refine V.s1 ?_; (try simp only [hkc])) | ((with_reducible refine recheck_and ?_ ?_); (focus ((conv => whnf); (try simp only [hkc]); (repeat (refine V.s1 ?_; (try simp only [hkc]))); exact ⟨rfl⟩)); (conv => whnf); (try simp only [hkc])))
      exact ⟨k + 1, ⟨by omega, fun j hj => by
        rcases Nat.lt_or_ge j k with h | h
        · exact hk.2 j h
        · rw [show j = k by omega, hvv, hz]⟩, by omega, V.wk⟩
  · rw [decide_eq_false_iff_not] at hq
    obtain ⟨j, hj, hv⟩ := hv
    rw [hk.2 j (by omega)] at hv
    cases hv
theorem cki2_ok (g : Nat) (p q p2 q2 : Int) (x e : Int) (n : Nat) (f : Nat → List D) (a c : Nat → Int) (hf : ∀ j, j < n → f j = [.int .i64 (a j), .int .i64 (c j)]) (hn : n < 1000)
    (hv : ∀ j, j < n → vb (a j) (c j) = true) (hg : Called Tryz.prog g [.ref [.int .i64 p, .int .i64 q], .ref [.int .i64 p2, .int .i64 q2]] (.tup [.int .i64 x, .int .i64 e])) :
    Called Tryz.prog 87 [.fn g [] [.ref [.int .i64 p, .int .i64 q], .ref [.int .i64 p2, .int .i64 q2]], .slf 2 n f] (.tup [.int .i64 x, .int .i64 e]) := by
  refine called_of_run tbOk 6 ⟨Tryz.func87, rfl, rfl, Nat.le_of_ble_eq_true rfl⟩ ?_
  (conv => whnf)
  refine V.st ?_
  refine lp_any (0 : Nat) (fun k => k ≤ n) (fun k => n - k) (fun k => [(11, .int .i64 k)]) (fun _ => []) ?_ ?_ ?_
  · exact V.wk
  · exact Nat.zero_le _
  intro k hk
  have hkc : ((k : Int) + 1) = ((k + 1 : Nat) : Int) := by omega
  have hfk := hf k
  have hvk := hv k
  have hvc := valid_c (a k) (c k)
  (conv => whnf)
  refine V.st ?_
  refine Cnd.split (CondB.mk (fun hq => ?_) (fun hq => ?_))
  · rw [decide_eq_true_eq] at hq
    rw [hvk (by omega)] at hvc
    (conv => whnf)
    (try simp only [Int.toNat_natCast, hfk (by omega), hkc])
    repeat (first | (refine V.s1 ?_; (try simp only [Int.toNat_natCast, hfk (by omega), hkc])) | ((with_reducible refine recheck_and ?_ ?_); (focus ((conv => whnf); (try simp only [Int.toNat_natCast, hfk (by omega), hkc]); (repeat (refine V.s1 ?_; (try simp only [Int.toNat_natCast, hfk (by omega), hkc]))); exact ⟨rfl⟩)); (conv => whnf); (try simp only [Int.toNat_natCast, hfk (by omega), hkc])))
    (conv => whnf)
    refine And.intro (fun _ => ⟨by omega, by omega⟩) ?_
    (conv => whnf)
    (try simp only [hkc])
    repeat (first | (refine V.s1 ?_; (try simp only [hkc])) | ((with_reducible refine recheck_and ?_ ?_); (focus ((conv => whnf); (try simp only [hkc]); (repeat (refine V.s1 ?_; (try simp only [hkc]))); exact ⟨rfl⟩)); (conv => whnf); (try simp only [hkc])) | ((try ((with_reducible refine .ext ?_); (conv => whnf); (try simp only [hkc]))); (with_reducible refine call_intro (r := ?_) ?_ ?_); rotate_left; (focus (first | exact (hvc))); (conv => whnf); (try simp only [hkc])))
    exact ⟨k + 1, by omega, by omega, V.wk⟩
  · rw [decide_eq_false_iff_not] at hq
    (conv => whnf)
    refine V.st ?_
    repeat ((try ((with_reducible refine .ext ?_); (conv => whnf))); (with_reducible refine call_intro (r := ?_) ?_ ?_); rotate_left; (focus (first | exact (hg))); (conv => whnf); refine V.st ?_)
    exact Fin.of rfl
theorem cki2_no (g : Nat) (p q p2 q2 : Int) (x e : Int) (n : Nat) (f : Nat → List D) (a c : Nat → Int) (hf : ∀ j, j < n → f j = [.int .i64 (a j), .int .i64 (c j)]) (hn : n < 1000)
    (hv : ∃ j, j < n ∧ vb (a j) (c j) = false) :
    Called Tryz.prog 87 [.fn g [] [.ref [.int .i64 p, .int .i64 q], .ref [.int .i64 p2, .int .i64 q2]], .slf 2 n f] (.tup [.int .i64 0, .int .i64 30]) := by
  refine called_of_run tbOk 6 ⟨Tryz.func87, rfl, rfl, Nat.le_of_ble_eq_true rfl⟩ ?_
  (conv => whnf)
  refine V.st ?_
  refine lp_any (0 : Nat) (fun k => k ≤ n ∧ ∀ j, j < k → vb (a j) (c j) = true) (fun k => n - k) (fun k => [(11, .int .i64 k)]) (fun _ => []) ?_ ?_ ?_
  · exact V.wk
  · exact ⟨Nat.zero_le _, fun j hj => by omega⟩
  intro k hk
  have hkc : ((k : Int) + 1) = ((k + 1 : Nat) : Int) := by omega
  have hfk := hf k
  have hvc := valid_c (a k) (c k)
  (conv => whnf)
  refine V.st ?_
  refine Cnd.split (CondB.mk (fun hq => ?_) (fun hq => ?_))
  · rw [decide_eq_true_eq] at hq
    generalize hvv : vb (a k) (c k) = v at *
    (conv => whnf)
    (try simp only [Int.toNat_natCast, hfk (by omega), hkc])
    repeat (first | (refine V.s1 ?_; (try simp only [Int.toNat_natCast, hfk (by omega), hkc])) | ((with_reducible refine recheck_and ?_ ?_); (focus ((conv => whnf); (try simp only [Int.toNat_natCast, hfk (by omega), hkc]); (repeat (refine V.s1 ?_; (try simp only [Int.toNat_natCast, hfk (by omega), hkc]))); exact ⟨rfl⟩)); (conv => whnf); (try simp only [Int.toNat_natCast, hfk (by omega), hkc])))
    (conv => whnf)
    refine And.intro (fun _ => ⟨by omega, by omega⟩) ?_
    (conv => whnf)
    (try simp only [hkc])
    repeat (first | (refine V.s1 ?_; (try simp only [hkc])) | ((with_reducible refine recheck_and ?_ ?_); (focus ((conv => whnf); (try simp only [hkc]); (repeat (refine V.s1 ?_; (try simp only [hkc]))); exact ⟨rfl⟩)); (conv => whnf); (try simp only [hkc])) | ((try ((with_reducible refine .ext ?_); (conv => whnf); (try simp only [hkc]))); (with_reducible refine call_intro (r := ?_) ?_ ?_); rotate_left; (focus (first | exact (hvc))); (conv => whnf); (try simp only [hkc])))
    refine Cnd.split (CondB.mk (fun hz => ?_) (fun hz => ?_))
    · (conv => whnf)
      (try simp only [hkc])
      repeat (first | (refine V.s1 ?_; (try simp only [hkc])) | ((with_reducible refine recheck_and ?_ ?_); (focus ((conv => whnf); (try simp only [hkc]); (repeat (refine V.s1 ?_; (try simp only [hkc]))); exact ⟨rfl⟩)); (conv => whnf); (try simp only [hkc])))
      exact Fin.of rfl
    · simp only [Bool.not_eq_false'] at hz
      (conv => whnf)
      (try simp only [hkc])
      repeat (first | (refine V.s1 ?_; (try simp only [hkc])) | ((with_reducible refine recheck_and ?_ ?_); (focus ((conv => whnf); (try simp only [hkc]); (repeat (refine V.s1 ?_; (try simp only [hkc]))); exact ⟨rfl⟩)); (conv => whnf); (try simp only [hkc])))
      exact ⟨k + 1, ⟨by omega, fun j hj => by
        rcases Nat.lt_or_ge j k with h | h
        · exact hk.2 j h
        · rw [show j = k by omega, hvv, hz]⟩, by omega, V.wk⟩
  · rw [decide_eq_false_iff_not] at hq
    obtain ⟨j, hj, hv⟩ := hv
    rw [hk.2 j (by omega)] at hv
    cases hv
theorem ckb3_ok (g : Nat) (p q m n0 : Int) (x y e : Int) (n : Nat) (f : Nat → List D) (a c : Nat → Int) (hf : ∀ j, j < n → f j = [.int .i64 (a j), .int .i64 (c j)]) (hn : n < 1000)
    (hv : ∀ j, j < n → vb (a j) (c j) = true) (hg : Called Tryz.prog g [.ref [.int .i64 m], .ref [.int .i64 n0], .ref [.int .i64 p, .int .i64 q]] (bD (x, y, e))) :
    Called Tryz.prog 66 [.fn g [] [.ref [.int .i64 m], .ref [.int .i64 n0], .ref [.int .i64 p, .int .i64 q]], .slf 2 n f] (bD (x, y, e)) := by
  refine called_of_run tbOk 6 ⟨Tryz.func66, rfl, rfl, Nat.le_of_ble_eq_true rfl⟩ ?_
  (conv => whnf)
  refine V.st ?_
  refine lp_any (0 : Nat) (fun k => k ≤ n) (fun k => n - k) (fun k => [(11, .int .i64 k)]) (fun _ => []) ?_ ?_ ?_
  · exact V.wk
  · exact Nat.zero_le _
  intro k hk
  have hkc : ((k : Int) + 1) = ((k + 1 : Nat) : Int) := by omega
  have hfk := hf k
  have hvk := hv k
  have hvc := valid_c (a k) (c k)
  (conv => whnf)
  refine V.st ?_
  refine Cnd.split (CondB.mk (fun hq => ?_) (fun hq => ?_))
  · rw [decide_eq_true_eq] at hq
    rw [hvk (by omega)] at hvc
    (conv => whnf)
    (try simp only [Int.toNat_natCast, hfk (by omega), hkc])
    repeat (first | (refine V.s1 ?_; (try simp only [Int.toNat_natCast, hfk (by omega), hkc])) | ((with_reducible refine recheck_and ?_ ?_); (focus ((conv => whnf); (try simp only [Int.toNat_natCast, hfk (by omega), hkc]); (repeat (refine V.s1 ?_; (try simp only [Int.toNat_natCast, hfk (by omega), hkc]))); exact ⟨rfl⟩)); (conv => whnf); (try simp only [Int.toNat_natCast, hfk (by omega), hkc])))
    (conv => whnf)
    refine And.intro (fun _ => ⟨by omega, by omega⟩) ?_
    (conv => whnf)
    (try simp only [hkc])
    repeat (first | (refine V.s1 ?_; (try simp only [hkc])) | ((with_reducible refine recheck_and ?_ ?_); (focus ((conv => whnf); (try simp only [hkc]); (repeat (refine V.s1 ?_; (try simp only [hkc]))); exact ⟨rfl⟩)); (conv => whnf); (try simp only [hkc])) | ((try ((with_reducible refine .ext ?_); (conv => whnf); (try simp only [hkc]))); (with_reducible refine call_intro (r := ?_) ?_ ?_); rotate_left; (focus (first | exact (hvc))); (conv => whnf); (try simp only [hkc])))
    exact ⟨k + 1, by omega, by omega, V.wk⟩
  · rw [decide_eq_false_iff_not] at hq
    (conv => whnf)
    refine V.st ?_
    repeat ((try ((with_reducible refine .ext ?_); (conv => whnf))); (with_reducible refine call_intro (r := ?_) ?_ ?_); rotate_left; (focus (first | exact (hg))); (conv => whnf); refine V.st ?_)
    exact Fin.of rfl
theorem ckb3_no (g : Nat) (p q m n0 : Int) (x y e : Int) (n : Nat) (f : Nat → List D) (a c : Nat → Int) (hf : ∀ j, j < n → f j = [.int .i64 (a j), .int .i64 (c j)]) (hn : n < 1000)
    (hv : ∃ j, j < n ∧ vb (a j) (c j) = false) :
    Called Tryz.prog 66 [.fn g [] [.ref [.int .i64 m], .ref [.int .i64 n0], .ref [.int .i64 p, .int .i64 q]], .slf 2 n f] (bD (0, 0, 30)) := by
  refine called_of_run tbOk 6 ⟨Tryz.func66, rfl, rfl, Nat.le_of_ble_eq_true rfl⟩ ?_
  (conv => whnf)
  refine V.st ?_
  refine lp_any (0 : Nat) (fun k => k ≤ n ∧ ∀ j, j < k → vb (a j) (c j) = true) (fun k => n - k) (fun k => [(11, .int .i64 k)]) (fun _ => []) ?_ ?_ ?_
  · exact V.wk
  · exact ⟨Nat.zero_le _, fun j hj => by omega⟩
  intro k hk
  have hkc : ((k : Int) + 1) = ((k + 1 : Nat) : Int) := by omega
  have hfk := hf k
  have hvc := valid_c (a k) (c k)
  (conv => whnf)
  refine V.st ?_
  refine Cnd.split (CondB.mk (fun hq => ?_) (fun hq => ?_))
  · rw [decide_eq_true_eq] at hq
    generalize hvv : vb (a k) (c k) = v at *
    (conv => whnf)
    (try simp only [Int.toNat_natCast, hfk (by omega), hkc])
    repeat (first | (refine V.s1 ?_; (try simp only [Int.toNat_natCast, hfk (by omega), hkc])) | ((with_reducible refine recheck_and ?_ ?_); (focus ((conv => whnf); (try simp only [Int.toNat_natCast, hfk (by omega), hkc]); (repeat (refine V.s1 ?_; (try simp only [Int.toNat_natCast, hfk (by omega), hkc]))); exact ⟨rfl⟩)); (conv => whnf); (try simp only [Int.toNat_natCast, hfk (by omega), hkc])))
    (conv => whnf)
    refine And.intro (fun _ => ⟨by omega, by omega⟩) ?_
    (conv => whnf)
    (try simp only [hkc])
    repeat (first | (refine V.s1 ?_; (try simp only [hkc])) | ((with_reducible refine recheck_and ?_ ?_); (focus ((conv => whnf); (try simp only [hkc]); (repeat (refine V.s1 ?_; (try simp only [hkc]))); exact ⟨rfl⟩)); (conv => whnf); (try simp only [hkc])) | ((try ((with_reducible refine .ext ?_); (conv => whnf); (try simp only [hkc]))); (with_reducible refine call_intro (r := ?_) ?_ ?_); rotate_left; (focus (first | exact (hvc))); (conv => whnf); (try simp only [hkc])))
    refine Cnd.split (CondB.mk (fun hz => ?_) (fun hz => ?_))
    · (conv => whnf)
      (try simp only [hkc])
      repeat (first | (refine V.s1 ?_; (try simp only [hkc])) | ((with_reducible refine recheck_and ?_ ?_); (focus ((conv => whnf); (try simp only [hkc]); (repeat (refine V.s1 ?_; (try simp only [hkc]))); exact ⟨rfl⟩)); (conv => whnf); (try simp only [hkc])))
      exact Fin.of rfl
    · simp only [Bool.not_eq_false'] at hz
      (conv => whnf)
      (try simp only [hkc])
      repeat (first | (refine V.s1 ?_; (try simp only [hkc])) | ((with_reducible refine recheck_and ?_ ?_); (focus ((conv => whnf); (try simp only [hkc]); (repeat (refine V.s1 ?_; (try simp only [hkc]))); exact ⟨rfl⟩)); (conv => whnf); (try simp only [hkc])))
      exact ⟨k + 1, ⟨by omega, fun j hj => by
        rcases Nat.lt_or_ge j k with h | h
        · exact hk.2 j h
        · rw [show j = k by omega, hvv, hz]⟩, by omega, V.wk⟩
  · rw [decide_eq_false_iff_not] at hq
    obtain ⟨j, hj, hv⟩ := hv
    rw [hk.2 j (by omega)] at hv
    cases hv
theorem ckb4_ok (g : Nat) (p q p2 q2 m : Int) (x y e : Int) (n : Nat) (f : Nat → List D) (a c : Nat → Int) (hf : ∀ j, j < n → f j = [.int .i64 (a j), .int .i64 (c j)]) (hn : n < 1000)
    (hv : ∀ j, j < n → vb (a j) (c j) = true) (hg : Called Tryz.prog g [.ref [.int .i64 p, .int .i64 q], .ref [.int .i64 p2, .int .i64 q2], .ref [.int .i64 m]] (bD (x, y, e))) :
    Called Tryz.prog 66 [.fn g [] [.ref [.int .i64 p, .int .i64 q], .ref [.int .i64 p2, .int .i64 q2], .ref [.int .i64 m]], .slf 2 n f] (bD (x, y, e)) := by
  refine called_of_run tbOk 6 ⟨Tryz.func66, rfl, rfl, Nat.le_of_ble_eq_true rfl⟩ ?_
  (conv => whnf)
  refine V.st ?_
  refine lp_any (0 : Nat) (fun k => k ≤ n) (fun k => n - k) (fun k => [(11, .int .i64 k)]) (fun _ => []) ?_ ?_ ?_
  · exact V.wk
  · exact Nat.zero_le _
  intro k hk
  have hkc : ((k : Int) + 1) = ((k + 1 : Nat) : Int) := by omega
  have hfk := hf k
  have hvk := hv k
  have hvc := valid_c (a k) (c k)
  (conv => whnf)
  refine V.st ?_
  refine Cnd.split (CondB.mk (fun hq => ?_) (fun hq => ?_))
  · rw [decide_eq_true_eq] at hq
    rw [hvk (by omega)] at hvc
    (conv => whnf)
    (try simp only [Int.toNat_natCast, hfk (by omega), hkc])
    repeat (first | (refine V.s1 ?_; (try simp only [Int.toNat_natCast, hfk (by omega), hkc])) | ((with_reducible refine recheck_and ?_ ?_); (focus ((conv => whnf); (try simp only [Int.toNat_natCast, hfk (by omega), hkc]); (repeat (refine V.s1 ?_; (try simp only [Int.toNat_natCast, hfk (by omega), hkc]))); exact ⟨rfl⟩)); (conv => whnf); (try simp only [Int.toNat_natCast, hfk (by omega), hkc])))
    (conv => whnf)
    refine And.intro (fun _ => ⟨by omega, by omega⟩) ?_
    (conv => whnf)
    (try simp only [hkc])
    repeat (first | (refine V.s1 ?_; (try simp only [hkc])) | ((with_reducible refine recheck_and ?_ ?_); (focus ((conv => whnf); (try simp only [hkc]); (repeat (refine V.s1 ?_; (try simp only [hkc]))); exact ⟨rfl⟩)); (conv => whnf); (try simp only [hkc])) | ((try ((with_reducible refine .ext ?_); (conv => whnf); (try simp only [hkc]))); (with_reducible refine call_intro (r := ?_) ?_ ?_); rotate_left; (focus (first | exact (hvc))); (conv => whnf); (try simp only [hkc])))
    exact ⟨k + 1, by omega, by omega, V.wk⟩
  · rw [decide_eq_false_iff_not] at hq
    (conv => whnf)
    refine V.st ?_
    repeat ((try ((with_reducible refine .ext ?_); (conv => whnf))); (with_reducible refine call_intro (r := ?_) ?_ ?_); rotate_left; (focus (first | exact (hg))); (conv => whnf); refine V.st ?_)
    exact Fin.of rfl
theorem ckb4_no (g : Nat) (p q p2 q2 m : Int) (x y e : Int) (n : Nat) (f : Nat → List D) (a c : Nat → Int) (hf : ∀ j, j < n → f j = [.int .i64 (a j), .int .i64 (c j)]) (hn : n < 1000)
    (hv : ∃ j, j < n ∧ vb (a j) (c j) = false) :
    Called Tryz.prog 66 [.fn g [] [.ref [.int .i64 p, .int .i64 q], .ref [.int .i64 p2, .int .i64 q2], .ref [.int .i64 m]], .slf 2 n f] (bD (0, 0, 30)) := by
  refine called_of_run tbOk 6 ⟨Tryz.func66, rfl, rfl, Nat.le_of_ble_eq_true rfl⟩ ?_
  (conv => whnf)
  refine V.st ?_
  refine lp_any (0 : Nat) (fun k => k ≤ n ∧ ∀ j, j < k → vb (a j) (c j) = true) (fun k => n - k) (fun k => [(11, .int .i64 k)]) (fun _ => []) ?_ ?_ ?_
  · exact V.wk
  · exact ⟨Nat.zero_le _, fun j hj => by omega⟩
  intro k hk
  have hkc : ((k : Int) + 1) = ((k + 1 : Nat) : Int) := by omega
  have hfk := hf k
  have hvc := valid_c (a k) (c k)
  (conv => whnf)
  refine V.st ?_
  refine Cnd.split (CondB.mk (fun hq => ?_) (fun hq => ?_))
  · rw [decide_eq_true_eq] at hq
    generalize hvv : vb (a k) (c k) = v at *
    (conv => whnf)
    (try simp only [Int.toNat_natCast, hfk (by omega), hkc])
    repeat (first | (refine V.s1 ?_; (try simp only [Int.toNat_natCast, hfk (by omega), hkc])) | ((with_reducible refine recheck_and ?_ ?_); (focus ((conv => whnf); (try simp only [Int.toNat_natCast, hfk (by omega), hkc]); (repeat (refine V.s1 ?_; (try simp only [Int.toNat_natCast, hfk (by omega), hkc]))); exact ⟨rfl⟩)); (conv => whnf); (try simp only [Int.toNat_natCast, hfk (by omega), hkc])))
    (conv => whnf)
    refine And.intro (fun _ => ⟨by omega, by omega⟩) ?_
    (conv => whnf)
    (try simp only [hkc])
    repeat (first | (refine V.s1 ?_; (try simp only [hkc])) | ((with_reducible refine recheck_and ?_ ?_); (focus ((conv => whnf); (try simp only [hkc]); (repeat (refine V.s1 ?_; (try simp only [hkc]))); exact ⟨rfl⟩)); (conv => whnf); (try simp only [hkc])) | ((try ((with_reducible refine .ext ?_); (conv => whnf); (try simp only [hkc]))); (with_reducible refine call_intro (r := ?_) ?_ ?_); rotate_left; (focus (first | exact (hvc))); (conv => whnf); (try simp only [hkc])))
    refine Cnd.split (CondB.mk (fun hz => ?_) (fun hz => ?_))
    · (conv => whnf)
      (try simp only [hkc])
      repeat (first | (refine V.s1 ?_; (try simp only [hkc])) | ((with_reducible refine recheck_and ?_ ?_); (focus ((conv => whnf); (try simp only [hkc]); (repeat (refine V.s1 ?_; (try simp only [hkc]))); exact ⟨rfl⟩)); (conv => whnf); (try simp only [hkc])))
      exact Fin.of rfl
    · simp only [Bool.not_eq_false'] at hz
      (conv => whnf)
      (try simp only [hkc])
      repeat (first | (refine V.s1 ?_; (try simp only [hkc])) | ((with_reducible refine recheck_and ?_ ?_); (focus ((conv => whnf); (try simp only [hkc]); (repeat (refine V.s1 ?_; (try simp only [hkc]))); exact ⟨rfl⟩)); (conv => whnf); (try simp only [hkc])))
      exact ⟨k + 1, ⟨by omega, fun j hj => by
        rcases Nat.lt_or_ge j k with h | h
        · exact hk.2 j h
        · rw [show j = k by omega, hvv, hz]⟩, by omega, V.wk⟩
  · rw [decide_eq_false_iff_not] at hq
    obtain ⟨j, hj, hv⟩ := hv
    rw [hk.2 j (by omega)] at hv
    cases hv
theorem ckf1_ok (g : Nat) (p q : Int) (u v : List UInt8) (e : Int) (n : Nat) (f : Nat → List D) (a c : Nat → Int) (hf : ∀ j, j < n → f j = [.int .i64 (a j), .int .i64 (c j)]) (hn : n < 1000)
    (hv : ∀ j, j < n → vb (a j) (c j) = true) (hg : Called Tryz.prog g [.ref [.int .i64 p, .int .i64 q]] (.tup [.agg [.str u, .str v], .int .i64 e])) :
    Called Tryz.prog 82 [.fn g [] [.ref [.int .i64 p, .int .i64 q]], .slf 2 n f] (.tup [.agg [.str u, .str v], .int .i64 e]) := by
  refine called_of_run tbOk 6 ⟨Tryz.func82, rfl, rfl, Nat.le_of_ble_eq_true rfl⟩ ?_
  (conv => whnf)
  refine V.st ?_
  refine lp_any (0 : Nat) (fun k => k ≤ n) (fun k => n - k) (fun k => [(11, .int .i64 k)]) (fun _ => []) ?_ ?_ ?_
  · exact V.wk
  · exact Nat.zero_le _
  intro k hk
  have hkc : ((k : Int) + 1) = ((k + 1 : Nat) : Int) := by omega
  have hfk := hf k
  have hvk := hv k
  have hvc := valid_c (a k) (c k)
  (conv => whnf)
  refine V.st ?_
  refine Cnd.split (CondB.mk (fun hq => ?_) (fun hq => ?_))
  · rw [decide_eq_true_eq] at hq
    rw [hvk (by omega)] at hvc
    (conv => whnf)
    (try simp only [Int.toNat_natCast, hfk (by omega), hkc])
    repeat (first | (refine V.s1 ?_; (try simp only [Int.toNat_natCast, hfk (by omega), hkc])) | ((with_reducible refine recheck_and ?_ ?_); (focus ((conv => whnf); (try simp only [Int.toNat_natCast, hfk (by omega), hkc]); (repeat (refine V.s1 ?_; (try simp only [Int.toNat_natCast, hfk (by omega), hkc]))); exact ⟨rfl⟩)); (conv => whnf); (try simp only [Int.toNat_natCast, hfk (by omega), hkc])))
    (conv => whnf)
    refine And.intro (fun _ => ⟨by omega, by omega⟩) ?_
    (conv => whnf)
    (try simp only [hkc])
    repeat (first | (refine V.s1 ?_; (try simp only [hkc])) | ((with_reducible refine recheck_and ?_ ?_); (focus ((conv => whnf); (try simp only [hkc]); (repeat (refine V.s1 ?_; (try simp only [hkc]))); exact ⟨rfl⟩)); (conv => whnf); (try simp only [hkc])) | ((try ((with_reducible refine .ext ?_); (conv => whnf); (try simp only [hkc]))); (with_reducible refine call_intro (r := ?_) ?_ ?_); rotate_left; (focus (first | exact (hvc))); (conv => whnf); (try simp only [hkc])))
    exact ⟨k + 1, by omega, by omega, V.wk⟩
  · rw [decide_eq_false_iff_not] at hq
    (conv => whnf)
    refine V.st ?_
    repeat ((try ((with_reducible refine .ext ?_); (conv => whnf))); (with_reducible refine call_intro (r := ?_) ?_ ?_); rotate_left; (focus (first | exact (hg))); (conv => whnf); refine V.st ?_)
    exact Fin.of rfl
theorem ckf1_no (g : Nat) (p q : Int) (u v : List UInt8) (e : Int) (n : Nat) (f : Nat → List D) (a c : Nat → Int) (hf : ∀ j, j < n → f j = [.int .i64 (a j), .int .i64 (c j)]) (hn : n < 1000)
    (hv : ∃ j, j < n ∧ vb (a j) (c j) = false) :
    Called Tryz.prog 82 [.fn g [] [.ref [.int .i64 p, .int .i64 q]], .slf 2 n f] (.tup [.agg [.str [], .str []], .int .i64 30]) := by
  refine called_of_run tbOk 6 ⟨Tryz.func82, rfl, rfl, Nat.le_of_ble_eq_true rfl⟩ ?_
  (conv => whnf)
  refine V.st ?_
  refine lp_any (0 : Nat) (fun k => k ≤ n ∧ ∀ j, j < k → vb (a j) (c j) = true) (fun k => n - k) (fun k => [(11, .int .i64 k)]) (fun _ => []) ?_ ?_ ?_
  · exact V.wk
  · exact ⟨Nat.zero_le _, fun j hj => by omega⟩
  intro k hk
  have hkc : ((k : Int) + 1) = ((k + 1 : Nat) : Int) := by omega
  have hfk := hf k
  have hvc := valid_c (a k) (c k)
  (conv => whnf)
  refine V.st ?_
  refine Cnd.split (CondB.mk (fun hq => ?_) (fun hq => ?_))
  · rw [decide_eq_true_eq] at hq
    generalize hvv : vb (a k) (c k) = v at *
    (conv => whnf)
    (try simp only [Int.toNat_natCast, hfk (by omega), hkc])
    repeat (first | (refine V.s1 ?_; (try simp only [Int.toNat_natCast, hfk (by omega), hkc])) | ((with_reducible refine recheck_and ?_ ?_); (focus ((conv => whnf); (try simp only [Int.toNat_natCast, hfk (by omega), hkc]); (repeat (refine V.s1 ?_; (try simp only [Int.toNat_natCast, hfk (by omega), hkc]))); exact ⟨rfl⟩)); (conv => whnf); (try simp only [Int.toNat_natCast, hfk (by omega), hkc])))
    (conv => whnf)
    refine And.intro (fun _ => ⟨by omega, by omega⟩) ?_
    (conv => whnf)
    (try simp only [hkc])
    repeat (first | (refine V.s1 ?_; (try simp only [hkc])) | ((with_reducible refine recheck_and ?_ ?_); (focus ((conv => whnf); (try simp only [hkc]); (repeat (refine V.s1 ?_; (try simp only [hkc]))); exact ⟨rfl⟩)); (conv => whnf); (try simp only [hkc])) | ((try ((with_reducible refine .ext ?_); (conv => whnf); (try simp only [hkc]))); (with_reducible refine call_intro (r := ?_) ?_ ?_); rotate_left; (focus (first | exact (hvc))); (conv => whnf); (try simp only [hkc])))
    refine Cnd.split (CondB.mk (fun hz => ?_) (fun hz => ?_))
    · (conv => whnf)
      (try simp only [hkc])
      repeat (first | (refine V.s1 ?_; (try simp only [hkc])) | ((with_reducible refine recheck_and ?_ ?_); (focus ((conv => whnf); (try simp only [hkc]); (repeat (refine V.s1 ?_; (try simp only [hkc]))); exact ⟨rfl⟩)); (conv => whnf); (try simp only [hkc])))
      exact Fin.of rfl
    · simp only [Bool.not_eq_false'] at hz
      (conv => whnf)
      (try simp only [hkc])
      repeat (first | (refine V.s1 ?_; (try simp only [hkc])) | ((with_reducible refine recheck_and ?_ ?_); (focus ((conv => whnf); (try simp only [hkc]); (repeat (refine V.s1 ?_; (try simp only [hkc]))); exact ⟨rfl⟩)); (conv => whnf); (try simp only [hkc])))
      exact ⟨k + 1, ⟨by omega, fun j hj => by
        rcases Nat.lt_or_ge j k with h | h
        · exact hk.2 j h
        · rw [show j = k by omega, hvv, hz]⟩, by omega, V.wk⟩
  · rw [decide_eq_false_iff_not] at hq
    obtain ⟨j, hj, hv⟩ := hv
    rw [hk.2 j (by omega)] at hv
    cases hv
theorem cko1_ok (g : Nat) (p q : Int) (u v : List UInt8) (x : Bool) (e : Int) (n : Nat) (f : Nat → List D) (a c : Nat → Int) (hf : ∀ j, j < n → f j = [.int .i64 (a j), .int .i64 (c j)]) (hn : n < 1000)
    (hv : ∀ j, j < n → vb (a j) (c j) = true) (hg : Called Tryz.prog g [.ref [.int .i64 p, .int .i64 q], .ref [.str u, .str v]] (.tup [.bool x, .int .i64 e])) :
    Called Tryz.prog 104 [.fn g [] [.ref [.int .i64 p, .int .i64 q], .ref [.str u, .str v]], .slf 2 n f] (.tup [.bool x, .int .i64 e]) := by
  refine called_of_run tbOk 6 ⟨Tryz.func104, rfl, rfl, Nat.le_of_ble_eq_true rfl⟩ ?_
  (conv => whnf)
  refine V.st ?_
  refine lp_any (0 : Nat) (fun k => k ≤ n) (fun k => n - k) (fun k => [(11, .int .i64 k)]) (fun _ => []) ?_ ?_ ?_
  · exact V.wk
  · exact Nat.zero_le _
  intro k hk
  have hkc : ((k : Int) + 1) = ((k + 1 : Nat) : Int) := by omega
  have hfk := hf k
  have hvk := hv k
  have hvc := valid_c (a k) (c k)
  (conv => whnf)
  refine V.st ?_
  refine Cnd.split (CondB.mk (fun hq => ?_) (fun hq => ?_))
  · rw [decide_eq_true_eq] at hq
    rw [hvk (by omega)] at hvc
    (conv => whnf)
    (try simp only [Int.toNat_natCast, hfk (by omega), hkc])
    repeat (first | (refine V.s1 ?_; (try simp only [Int.toNat_natCast, hfk (by omega), hkc])) | ((with_reducible refine recheck_and ?_ ?_); (focus ((conv => whnf); (try simp only [Int.toNat_natCast, hfk (by omega), hkc]); (repeat (refine V.s1 ?_; (try simp only [Int.toNat_natCast, hfk (by omega), hkc]))); exact ⟨rfl⟩)); (conv => whnf); (try simp only [Int.toNat_natCast, hfk (by omega), hkc])))
    (conv => whnf)
    refine And.intro (fun _ => ⟨by omega, by omega⟩) ?_
    (conv => whnf)
    (try simp only [hkc])
    repeat (first | (refine V.s1 ?_; (try simp only [hkc])) | ((with_reducible refine recheck_and ?_ ?_); (focus ((conv => whnf); (try simp only [hkc]); (repeat (refine V.s1 ?_; (try simp only [hkc]))); exact ⟨rfl⟩)); (conv => whnf); (try simp only [hkc])) | ((try ((with_reducible refine .ext ?_); (conv => whnf); (try simp only [hkc]))); (with_reducible refine call_intro (r := ?_) ?_ ?_); rotate_left; (focus (first | exact (hvc))); (conv => whnf); (try simp only [hkc])))
    exact ⟨k + 1, by omega, by omega, V.wk⟩
  · rw [decide_eq_false_iff_not] at hq
    (conv => whnf)
    refine V.st ?_
    repeat ((try ((with_reducible refine .ext ?_); (conv => whnf))); (with_reducible refine call_intro (r := ?_) ?_ ?_); rotate_left; (focus (first | exact (hg))); (conv => whnf); refine V.st ?_)
    exact Fin.of rfl
theorem cko1_no (g : Nat) (p q : Int) (u v : List UInt8) (x : Bool) (e : Int) (n : Nat) (f : Nat → List D) (a c : Nat → Int) (hf : ∀ j, j < n → f j = [.int .i64 (a j), .int .i64 (c j)]) (hn : n < 1000)
    (hv : ∃ j, j < n ∧ vb (a j) (c j) = false) :
    Called Tryz.prog 104 [.fn g [] [.ref [.int .i64 p, .int .i64 q], .ref [.str u, .str v]], .slf 2 n f] (.tup [.bool false, .int .i64 30]) := by
  refine called_of_run tbOk 6 ⟨Tryz.func104, rfl, rfl, Nat.le_of_ble_eq_true rfl⟩ ?_
  (conv => whnf)
  refine V.st ?_
  refine lp_any (0 : Nat) (fun k => k ≤ n ∧ ∀ j, j < k → vb (a j) (c j) = true) (fun k => n - k) (fun k => [(11, .int .i64 k)]) (fun _ => []) ?_ ?_ ?_
  · exact V.wk
  · exact ⟨Nat.zero_le _, fun j hj => by omega⟩
  intro k hk
  have hkc : ((k : Int) + 1) = ((k + 1 : Nat) : Int) := by omega
  have hfk := hf k
  have hvc := valid_c (a k) (c k)
  (conv => whnf)
  refine V.st ?_
  refine Cnd.split (CondB.mk (fun hq => ?_) (fun hq => ?_))
  · rw [decide_eq_true_eq] at hq
    generalize hvv : vb (a k) (c k) = v at *
    (conv => whnf)
    (try simp only [Int.toNat_natCast, hfk (by omega), hkc])
    repeat (first | (refine V.s1 ?_; (try simp only [Int.toNat_natCast, hfk (by omega), hkc])) | ((with_reducible refine recheck_and ?_ ?_); (focus ((conv => whnf); (try simp only [Int.toNat_natCast, hfk (by omega), hkc]); (repeat (refine V.s1 ?_; (try simp only [Int.toNat_natCast, hfk (by omega), hkc]))); exact ⟨rfl⟩)); (conv => whnf); (try simp only [Int.toNat_natCast, hfk (by omega), hkc])))
    (conv => whnf)
    refine And.intro (fun _ => ⟨by omega, by omega⟩) ?_
    (conv => whnf)
    (try simp only [hkc])
    repeat (first | (refine V.s1 ?_; (try simp only [hkc])) | ((with_reducible refine recheck_and ?_ ?_); (focus ((conv => whnf); (try simp only [hkc]); (repeat (refine V.s1 ?_; (try simp only [hkc]))); exact ⟨rfl⟩)); (conv => whnf); (try simp only [hkc])) | ((try ((with_reducible refine .ext ?_); (conv => whnf); (try simp only [hkc]))); (with_reducible refine call_intro (r := ?_) ?_ ?_); rotate_left; (focus (first | exact (hvc))); (conv => whnf); (try simp only [hkc])))
    refine Cnd.split (CondB.mk (fun hz => ?_) (fun hz => ?_))
    · (conv => whnf)
      (try simp only [hkc])
      repeat (first | (refine V.s1 ?_; (try simp only [hkc])) | ((with_reducible refine recheck_and ?_ ?_); (focus ((conv => whnf); (try simp only [hkc]); (repeat (refine V.s1 ?_; (try simp only [hkc]))); exact ⟨rfl⟩)); (conv => whnf); (try simp only [hkc])))
      exact Fin.of rfl
    · simp only [Bool.not_eq_false'] at hz
      (conv => whnf)
      (try simp only [hkc])
      repeat (first | (refine V.s1 ?_; (try simp only [hkc])) | ((with_reducible refine recheck_and ?_ ?_); (focus ((conv => whnf); (try simp only [hkc]); (repeat (refine V.s1 ?_; (try simp only [hkc]))); exact ⟨rfl⟩)); (conv => whnf); (try simp only [hkc])))
      exact ⟨k + 1, ⟨by omega, fun j hj => by
        rcases Nat.lt_or_ge j k with h | h
        · exact hk.2 j h
        · rw [show j = k by omega, hvv, hz]⟩, by omega, V.wk⟩
  · rw [decide_eq_false_iff_not] at hq
    obtain ⟨j, hj, hv⟩ := hv
    rw [hk.2 j (by omega)] at hv
    cases hv
end Go.Proofs.YtplflfnfodghmaaGreatDoor
end
section
namespace Go.Proofs.YtplflfnfodghmaaGreatDoor
open Go Go.V Go.Nb
def bA (p q : Int) : D := .agg [.int .i64 p, .int .i64 q]
def iD (r : Int × Int) : D := .tup [.int .i64 r.1, .int .i64 r.2]
def l1 (p q : Int) : Nat → List D := fun j => List.take 2 (List.drop (0 + j * 2) [.int .i64 p, .int .i64 q])
def l2 (p q p2 q2 : Int) : Nat → List D := fun j => List.take 2 (List.drop (0 + j * 2) [.int .i64 p, .int .i64 q, .int .i64 p2, .int .i64 q2])
theorem l1_c (p q : Int) : ∀ j, j < 1 → l1 p q j = [.int .i64 ((fun _ => p) j), .int .i64 ((fun _ => q) j)] := fun j hj => by
  have h0 : j = 0 := by omega
  subst h0; rfl
def sel (x y : Int) : Nat → Int := fun j => if j = 0 then x else y
theorem l2_c (p q p2 q2 : Int) : ∀ j, j < 2 → l2 p q p2 q2 j = [.int .i64 (sel p p2 j), .int .i64 (sel q q2 j)] := fun j hj => by
  rcases (by omega : j = 0 ∨ j = 1) with e | e
  · subst e; rfl
  · subst e; rfl
theorem sel_ok {p q p2 q2 : Int} (h : vb p q = true) (h2 : vb p2 q2 = true) : ∀ j, j < 2 → vb (sel p p2 j) (sel q q2 j) = true := fun j hj => by
  rcases (by omega : j = 0 ∨ j = 1) with e | e
  · subst e; exact h
  · subst e; exact h2
theorem sel_no {p q p2 q2 : Int} (h : ¬ (vb p q = true ∧ vb p2 q2 = true)) : ∃ j, j < 2 ∧ vb (sel p p2 j) (sel q q2 j) = false := by
  by_cases h1 : vb p q = true
  · have h3 : ¬ vb p2 q2 = true := fun h2 => h ⟨h1, h2⟩
    exact ⟨1, by omega, Bool.eq_false_iff.2 h3⟩
  · exact ⟨0, by omega, Bool.eq_false_iff.2 h1⟩
theorem one_no {p q : Int} (h : ¬ vb p q = true) : ∃ j, j < 1 ∧ vb ((fun _ => p) j) ((fun _ => q) j) = false := ⟨0, by omega, Bool.eq_false_iff.2 h⟩
theorem neg_b (p q : Int) : Called Tryz.prog 10 [bA p q] (bD (if vb p q = true then mk (0 - q) (0 - p) else (0, 0, 30))) := by
  by_cases hv : vb p q = true
  · rw [if_pos hv]
    have hb := vb_iff.1 hv
    have hc : Called Tryz.prog 67 [.ref [.int .i64 p, .int .i64 q]] (bD (mk (0 - q) (0 - p))) := by
      have hm := made_b (0 - q) (0 - p)
      generalize mk (0 - q) (0 - p) = r at *
      refine called_of_run tbOk 6 ⟨Tryz.func67, rfl, rfl, Nat.le_of_ble_eq_true rfl⟩ ?_
      (conv => whnf)
      refine V.st ?_
      repeat ((try ((with_reducible refine .ext ?_); (conv => whnf))); (with_reducible refine call_intro (r := ?_) ?_ ?_); rotate_left; (focus (first | exact (hm))); (conv => whnf); refine V.st ?_)
      exact Fin.of rfl
    have hk := ckb1_ok 67 p q (mk (0 - q) (0 - p)).1 (mk (0 - q) (0 - p)).2.1 (mk (0 - q) (0 - p)).2.2 1 (l1 p q) (fun _ => p) (fun _ => q) (l1_c p q) (by omega) (fun _ _ => hv) hc
    generalize mk (0 - q) (0 - p) = r at *
    refine called_of_run tbOk 6 ⟨Tryz.func10, rfl, rfl, Nat.le_of_ble_eq_true rfl⟩ ?_
    (conv => whnf)
    refine V.st ?_
    repeat ((try ((with_reducible refine .ext ?_); (conv => whnf))); (with_reducible refine call_intro (r := ?_) ?_ ?_); rotate_left; (focus (first | exact (hk))); (conv => whnf); refine V.st ?_)
    exact Fin.of rfl
  · rw [if_neg hv]
    have hk := ckb1_no 67 p q 0 0 0 1 (l1 p q) (fun _ => p) (fun _ => q) (l1_c p q) (by omega) (one_no hv)
    refine called_of_run tbOk 6 ⟨Tryz.func10, rfl, rfl, Nat.le_of_ble_eq_true rfl⟩ ?_
    (conv => whnf)
    refine V.st ?_
    repeat ((try ((with_reducible refine .ext ?_); (conv => whnf))); (with_reducible refine call_intro (r := ?_) ?_ ?_); rotate_left; (focus (first | exact (hk))); (conv => whnf); refine V.st ?_)
    exact Fin.of rfl
theorem mid_b (p q : Int) : Called Tryz.prog 24 [bA p q] (iD (if vb p q = true then ((p + q) / 2, 0) else (0, 30))) := by
  by_cases hv : vb p q = true
  · rw [if_pos hv]
    have hb := vb_iff.1 hv
    have hc : Called Tryz.prog 88 [.ref [.int .i64 p, .int .i64 q]] (iD (((p + q) / 2, 0))) := by
      refine called_of_run tbOk 6 ⟨Tryz.func88, rfl, rfl, Nat.le_of_ble_eq_true rfl⟩ ?_
      (conv => whnf)
      refine V.st ?_
      refine And.intro (fun _ _ => ⟨by decide, by decide⟩) ?_
      (conv => whnf)
      (try simp only [Int.pow_succ])
      repeat (first | (refine V.s1 ?_; (try simp only [Int.pow_succ])) | ((with_reducible refine recheck_and ?_ ?_); (focus ((conv => whnf); (try simp only [Int.pow_succ]); (repeat (refine V.s1 ?_; (try simp only [Int.pow_succ]))); exact ⟨rfl⟩)); (conv => whnf); (try simp only [Int.pow_succ])))
      exact Fin.of rfl
    have hk := cki1_ok 88 p q (((p + q) / 2, 0)).1 (((p + q) / 2, 0)).2 1 (l1 p q) (fun _ => p) (fun _ => q) (l1_c p q) (by omega) (fun _ _ => hv) hc
    generalize ((p + q) / 2, 0) = r at *
    refine called_of_run tbOk 6 ⟨Tryz.func24, rfl, rfl, Nat.le_of_ble_eq_true rfl⟩ ?_
    (conv => whnf)
    refine V.st ?_
    repeat ((try ((with_reducible refine .ext ?_); (conv => whnf))); (with_reducible refine call_intro (r := ?_) ?_ ?_); rotate_left; (focus (first | exact (hk))); (conv => whnf); refine V.st ?_)
    exact Fin.of rfl
  · rw [if_neg hv]
    have hk := cki1_no 88 p q 0 0 1 (l1 p q) (fun _ => p) (fun _ => q) (l1_c p q) (by omega) (one_no hv)
    refine called_of_run tbOk 6 ⟨Tryz.func24, rfl, rfl, Nat.le_of_ble_eq_true rfl⟩ ?_
    (conv => whnf)
    refine V.st ?_
    repeat ((try ((with_reducible refine .ext ?_); (conv => whnf))); (with_reducible refine call_intro (r := ?_) ?_ ?_); rotate_left; (focus (first | exact (hk))); (conv => whnf); refine V.st ?_)
    exact Fin.of rfl
theorem width_b (p q : Int) : Called Tryz.prog 26 [bA p q] (iD (if vb p q = true then (q - p, 0) else (0, 30))) := by
  by_cases hv : vb p q = true
  · rw [if_pos hv]
    have hb := vb_iff.1 hv
    have hc : Called Tryz.prog 91 [.ref [.int .i64 p, .int .i64 q]] (iD ((q - p, 0))) := by
      refine called_of_run tbOk 6 ⟨Tryz.func91, rfl, rfl, Nat.le_of_ble_eq_true rfl⟩ ?_
      (conv => whnf)
      refine V.st ?_
      exact Fin.of rfl
    have hk := cki1_ok 91 p q ((q - p, 0)).1 ((q - p, 0)).2 1 (l1 p q) (fun _ => p) (fun _ => q) (l1_c p q) (by omega) (fun _ _ => hv) hc
    generalize (q - p, 0) = r at *
    refine called_of_run tbOk 6 ⟨Tryz.func26, rfl, rfl, Nat.le_of_ble_eq_true rfl⟩ ?_
    (conv => whnf)
    refine V.st ?_
    repeat ((try ((with_reducible refine .ext ?_); (conv => whnf))); (with_reducible refine call_intro (r := ?_) ?_ ?_); rotate_left; (focus (first | exact (hk))); (conv => whnf); refine V.st ?_)
    exact Fin.of rfl
  · rw [if_neg hv]
    have hk := cki1_no 91 p q 0 0 1 (l1 p q) (fun _ => p) (fun _ => q) (l1_c p q) (by omega) (one_no hv)
    refine called_of_run tbOk 6 ⟨Tryz.func26, rfl, rfl, Nat.le_of_ble_eq_true rfl⟩ ?_
    (conv => whnf)
    refine V.st ?_
    repeat ((try ((with_reducible refine .ext ?_); (conv => whnf))); (with_reducible refine call_intro (r := ?_) ?_ ?_); rotate_left; (focus (first | exact (hk))); (conv => whnf); refine V.st ?_)
    exact Fin.of rfl
def sgn (p q : Int) : Int := if 0 < p then 1 else if q < 0 then -1 else if p = 0 ∧ q = 0 then 0 else 2
theorem sign_b (p q : Int) : Called Tryz.prog 28 [bA p q] (iD (if vb p q = true then (sgn p q, 0) else (0, 30))) := by
  by_cases hv : vb p q = true
  · rw [if_pos hv]
    have hb := vb_iff.1 hv
    have hc : Called Tryz.prog 92 [.ref [.int .i64 p, .int .i64 q]] (iD ((sgn p q, 0))) := by
      unfold sgn
      refine called_of_run tbOk 6 ⟨Tryz.func92, rfl, rfl, Nat.le_of_ble_eq_true rfl⟩ ?_
      (conv => whnf)
      refine V.st ?_
      refine Cnd.split (CondB.mk (fun h1 => ?_) (fun h1 => ?_))
      · rw [decide_eq_true_eq] at h1
        rw [if_pos h1]
        (conv => whnf)
        refine V.st ?_
        exact Fin.of rfl
      · rw [decide_eq_false_iff_not] at h1
        rw [if_neg h1]
        (conv => whnf)
        refine V.st ?_
        refine Cnd.split (CondB.mk (fun h2 => ?_) (fun h2 => ?_))
        · rw [decide_eq_true_eq] at h2
          rw [if_pos h2]
          (conv => whnf)
          refine V.st ?_
          exact Fin.of rfl
        · rw [decide_eq_false_iff_not] at h2
          rw [if_neg h2]
          (conv => whnf)
          refine V.st ?_
          refine Cnd.split (CondB.mk (fun h3 => ?_) (fun h3 => ?_))
          · simp only [Bool.and_true, Bool.and_eq_true, decide_eq_true_eq] at h3
            rw [if_pos h3]
            (conv => whnf)
            refine V.st ?_
            exact Fin.of rfl
          · rw [if_neg (fun h => by simp [h.1, h.2] at h3)]
            (conv => whnf)
            refine V.st ?_
            exact Fin.of rfl
    have hk := cki1_ok 92 p q ((sgn p q, 0)).1 ((sgn p q, 0)).2 1 (l1 p q) (fun _ => p) (fun _ => q) (l1_c p q) (by omega) (fun _ _ => hv) hc
    generalize (sgn p q, 0) = r at *
    refine called_of_run tbOk 6 ⟨Tryz.func28, rfl, rfl, Nat.le_of_ble_eq_true rfl⟩ ?_
    (conv => whnf)
    refine V.st ?_
    repeat ((try ((with_reducible refine .ext ?_); (conv => whnf))); (with_reducible refine call_intro (r := ?_) ?_ ?_); rotate_left; (focus (first | exact (hk))); (conv => whnf); refine V.st ?_)
    exact Fin.of rfl
  · rw [if_neg hv]
    have hk := cki1_no 92 p q 0 0 1 (l1 p q) (fun _ => p) (fun _ => q) (l1_c p q) (by omega) (one_no hv)
    refine called_of_run tbOk 6 ⟨Tryz.func28, rfl, rfl, Nat.le_of_ble_eq_true rfl⟩ ?_
    (conv => whnf)
    refine V.st ?_
    repeat ((try ((with_reducible refine .ext ?_); (conv => whnf))); (with_reducible refine call_intro (r := ?_) ?_ ?_); rotate_left; (focus (first | exact (hk))); (conv => whnf); refine V.st ?_)
    exact Fin.of rfl
theorem add_b (p q p2 q2 : Int) : Called Tryz.prog 50 [bA p q, bA p2 q2] (bD (if vb p q = true ∧ vb p2 q2 = true then mk (p + p2) (q + q2) else (0, 0, 30))) := by
  by_cases hv : vb p q = true ∧ vb p2 q2 = true
  · rw [if_pos hv]
    have hb := vb_iff.1 hv.1
    have hb2 := vb_iff.1 hv.2
    have hc : Called Tryz.prog 109 [.ref [.int .i64 p, .int .i64 q], .ref [.int .i64 p2, .int .i64 q2]] (bD (mk (p + p2) (q + q2))) := by
      have hm := made_b (p + p2) (q + q2)
      generalize mk (p + p2) (q + q2) = r at *
      refine called_of_run tbOk 6 ⟨Tryz.func109, rfl, rfl, Nat.le_of_ble_eq_true rfl⟩ ?_
      (conv => whnf)
      refine V.st ?_
      repeat ((try ((with_reducible refine .ext ?_); (conv => whnf))); (with_reducible refine call_intro (r := ?_) ?_ ?_); rotate_left; (focus (first | exact (hm))); (conv => whnf); refine V.st ?_)
      exact Fin.of rfl
    have hk := ckb2_ok 109 p q p2 q2 (mk (p + p2) (q + q2)).1 (mk (p + p2) (q + q2)).2.1 (mk (p + p2) (q + q2)).2.2 2 (l2 p q p2 q2) (sel p p2) (sel q q2) (l2_c p q p2 q2) (by omega) (sel_ok hv.1 hv.2) hc
    generalize mk (p + p2) (q + q2) = r at *
    refine called_of_run tbOk 6 ⟨Tryz.func50, rfl, rfl, Nat.le_of_ble_eq_true rfl⟩ ?_
    (conv => whnf)
    refine V.st ?_
    repeat ((try ((with_reducible refine .ext ?_); (conv => whnf))); (with_reducible refine call_intro (r := ?_) ?_ ?_); rotate_left; (focus (first | exact (hk))); (conv => whnf); refine V.st ?_)
    exact Fin.of rfl
  · rw [if_neg hv]
    have hk := ckb2_no 109 p q p2 q2 0 0 0 2 (l2 p q p2 q2) (sel p p2) (sel q q2) (l2_c p q p2 q2) (by omega) (sel_no hv)
    refine called_of_run tbOk 6 ⟨Tryz.func50, rfl, rfl, Nat.le_of_ble_eq_true rfl⟩ ?_
    (conv => whnf)
    refine V.st ?_
    repeat ((try ((with_reducible refine .ext ?_); (conv => whnf))); (with_reducible refine call_intro (r := ?_) ?_ ?_); rotate_left; (focus (first | exact (hk))); (conv => whnf); refine V.st ?_)
    exact Fin.of rfl
theorem sub_b (p q p2 q2 : Int) : Called Tryz.prog 51 [bA p q, bA p2 q2] (bD (if vb p q = true ∧ vb p2 q2 = true then mk (p - q2) (q - p2) else (0, 0, 30))) := by
  by_cases hv : vb p q = true ∧ vb p2 q2 = true
  · rw [if_pos hv]
    have hb := vb_iff.1 hv.1
    have hb2 := vb_iff.1 hv.2
    have hc : Called Tryz.prog 110 [.ref [.int .i64 p, .int .i64 q], .ref [.int .i64 p2, .int .i64 q2]] (bD (mk (p - q2) (q - p2))) := by
      have hm := made_b (p - q2) (q - p2)
      generalize mk (p - q2) (q - p2) = r at *
      refine called_of_run tbOk 6 ⟨Tryz.func110, rfl, rfl, Nat.le_of_ble_eq_true rfl⟩ ?_
      (conv => whnf)
      refine V.st ?_
      repeat ((try ((with_reducible refine .ext ?_); (conv => whnf))); (with_reducible refine call_intro (r := ?_) ?_ ?_); rotate_left; (focus (first | exact (hm))); (conv => whnf); refine V.st ?_)
      exact Fin.of rfl
    have hk := ckb2_ok 110 p q p2 q2 (mk (p - q2) (q - p2)).1 (mk (p - q2) (q - p2)).2.1 (mk (p - q2) (q - p2)).2.2 2 (l2 p q p2 q2) (sel p p2) (sel q q2) (l2_c p q p2 q2) (by omega) (sel_ok hv.1 hv.2) hc
    generalize mk (p - q2) (q - p2) = r at *
    refine called_of_run tbOk 6 ⟨Tryz.func51, rfl, rfl, Nat.le_of_ble_eq_true rfl⟩ ?_
    (conv => whnf)
    refine V.st ?_
    repeat ((try ((with_reducible refine .ext ?_); (conv => whnf))); (with_reducible refine call_intro (r := ?_) ?_ ?_); rotate_left; (focus (first | exact (hk))); (conv => whnf); refine V.st ?_)
    exact Fin.of rfl
  · rw [if_neg hv]
    have hk := ckb2_no 110 p q p2 q2 0 0 0 2 (l2 p q p2 q2) (sel p p2) (sel q q2) (l2_c p q p2 q2) (by omega) (sel_no hv)
    refine called_of_run tbOk 6 ⟨Tryz.func51, rfl, rfl, Nat.le_of_ble_eq_true rfl⟩ ?_
    (conv => whnf)
    refine V.st ?_
    repeat ((try ((with_reducible refine .ext ?_); (conv => whnf))); (with_reducible refine call_intro (r := ?_) ?_ ?_); rotate_left; (focus (first | exact (hk))); (conv => whnf); refine V.st ?_)
    exact Fin.of rfl
end Go.Proofs.YtplflfnfodghmaaGreatDoor
end
section
namespace Go.Proofs.YtplflfnfodghmaaGreatDoor
open Go Go.V Go.Nb
def mn : List Int → Int
  | [] => 0
  | x :: xs => xs.foldl min x
def mx : List Int → Int
  | [] => 0
  | x :: xs => xs.foldl max x
theorem take_foldl {op : Int → Int → Int} {x : Int} {xs : List Int} {k : Nat} (h : k < xs.length) : (xs.take (k + 1)).foldl op x = op ((xs.take k).foldl op x) (xs.getD k 0) := by
  rw [List.take_add_one, List.foldl_append, List.getD_eq_getElem?_getD, List.getElem?_eq_getElem h]
  rfl
theorem minS_c (x : Int) (xs : List Int) (hl : xs.length < 1000) : Called Tryz.prog 169 [.ints .i64 (x :: xs)] (.int .i64 (xs.foldl min x)) := by
  refine called_of_run tbOk 6 ⟨Tryz.func169, rfl, rfl, Nat.le_of_ble_eq_true rfl⟩ ?_
  (conv => whnf)
  refine V.st ?_
  refine Cnd.split (CondB.mk (fun h0 => ?_) (fun h0 => ?_))
  · rw [decide_eq_true_eq, List.length_cons] at h0
    omega
  · (conv => whnf)
    (try simp only [List.length_cons])
    repeat (first | (refine V.s1 ?_; (try simp only [List.length_cons])) | ((with_reducible refine recheck_and ?_ ?_); (focus ((conv => whnf); (try simp only [List.length_cons]); (repeat (refine V.s1 ?_; (try simp only [List.length_cons]))); exact ⟨rfl⟩)); (conv => whnf); (try simp only [List.length_cons])))
    refine lp_any (0 : Nat) (fun k => k ≤ xs.length) (fun k => xs.length - k) (fun k => [(4, .int .i64 ((k + 1 : Nat) : Int)), (3, .int .i64 ((xs.take k).foldl min x))]) (fun _ => []) ?_ ?_ ?_
    · exact V.wk
    · exact Nat.zero_le _
    intro k hk
    have hkc : (((k + 1 : Nat) : Int) + 1) = ((k + 1 + 1 : Nat) : Int) := by omega
    have hi : ((k + 1 : Nat) : Int).toNat = k + 1 := by omega
    (conv => whnf)
    (try simp only [hkc, hi, List.length_cons, List.getD_cons_succ])
    repeat (first | (refine V.s1 ?_; (try simp only [hkc, hi, List.length_cons, List.getD_cons_succ])) | ((with_reducible refine recheck_and ?_ ?_); (focus ((conv => whnf); (try simp only [hkc, hi, List.length_cons, List.getD_cons_succ]); (repeat (refine V.s1 ?_; (try simp only [hkc, hi, List.length_cons, List.getD_cons_succ]))); exact ⟨rfl⟩)); (conv => whnf); (try simp only [hkc, hi, List.length_cons, List.getD_cons_succ])))
    refine Cnd.split (CondB.mk (fun hq => ?_) (fun hq => ?_))
    · rw [decide_eq_true_eq] at hq
      have ht := take_foldl (op := min) (x := x) (xs := xs) (k := k) (by omega)
      (conv => whnf)
      (try simp only [hkc, hi, List.length_cons, List.getD_cons_succ])
      repeat (first | (refine V.s1 ?_; (try simp only [hkc, hi, List.length_cons, List.getD_cons_succ])) | ((with_reducible refine recheck_and ?_ ?_); (focus ((conv => whnf); (try simp only [hkc, hi, List.length_cons, List.getD_cons_succ]); (repeat (refine V.s1 ?_; (try simp only [hkc, hi, List.length_cons, List.getD_cons_succ]))); exact ⟨rfl⟩)); (conv => whnf); (try simp only [hkc, hi, List.length_cons, List.getD_cons_succ])))
      refine ⟨k + 1, by omega, by omega, ?_⟩
      rw [ht]
      exact V.wk
    · rw [decide_eq_false_iff_not] at hq
      have hk2 : k = xs.length := by omega
      (conv => whnf)
      (try simp only [hk2, List.take_length])
      repeat (first | (refine V.s1 ?_; (try simp only [hk2, List.take_length])) | ((with_reducible refine recheck_and ?_ ?_); (focus ((conv => whnf); (try simp only [hk2, List.take_length]); (repeat (refine V.s1 ?_; (try simp only [hk2, List.take_length]))); exact ⟨rfl⟩)); (conv => whnf); (try simp only [hk2, List.take_length])))
      exact Fin.of rfl
theorem maxS_c (x : Int) (xs : List Int) (hl : xs.length < 1000) : Called Tryz.prog 128 [.ints .i64 (x :: xs)] (.int .i64 (xs.foldl max x)) := by
  refine called_of_run tbOk 6 ⟨Tryz.func128, rfl, rfl, Nat.le_of_ble_eq_true rfl⟩ ?_
  (conv => whnf)
  refine V.st ?_
  refine Cnd.split (CondB.mk (fun h0 => ?_) (fun h0 => ?_))
  · rw [decide_eq_true_eq, List.length_cons] at h0
    omega
  · (conv => whnf)
    (try simp only [List.length_cons])
    repeat (first | (refine V.s1 ?_; (try simp only [List.length_cons])) | ((with_reducible refine recheck_and ?_ ?_); (focus ((conv => whnf); (try simp only [List.length_cons]); (repeat (refine V.s1 ?_; (try simp only [List.length_cons]))); exact ⟨rfl⟩)); (conv => whnf); (try simp only [List.length_cons])))
    refine lp_any (0 : Nat) (fun k => k ≤ xs.length) (fun k => xs.length - k) (fun k => [(4, .int .i64 ((k + 1 : Nat) : Int)), (3, .int .i64 ((xs.take k).foldl max x))]) (fun _ => []) ?_ ?_ ?_
    · exact V.wk
    · exact Nat.zero_le _
    intro k hk
    have hkc : (((k + 1 : Nat) : Int) + 1) = ((k + 1 + 1 : Nat) : Int) := by omega
    have hi : ((k + 1 : Nat) : Int).toNat = k + 1 := by omega
    (conv => whnf)
    (try simp only [hkc, hi, List.length_cons, List.getD_cons_succ])
    repeat (first | (refine V.s1 ?_; (try simp only [hkc, hi, List.length_cons, List.getD_cons_succ])) | ((with_reducible refine recheck_and ?_ ?_); (focus ((conv => whnf); (try simp only [hkc, hi, List.length_cons, List.getD_cons_succ]); (repeat (refine V.s1 ?_; (try simp only [hkc, hi, List.length_cons, List.getD_cons_succ]))); exact ⟨rfl⟩)); (conv => whnf); (try simp only [hkc, hi, List.length_cons, List.getD_cons_succ])))
    refine Cnd.split (CondB.mk (fun hq => ?_) (fun hq => ?_))
    · rw [decide_eq_true_eq] at hq
      have ht := take_foldl (op := max) (x := x) (xs := xs) (k := k) (by omega)
      (conv => whnf)
      (try simp only [hkc, hi, List.length_cons, List.getD_cons_succ])
      repeat (first | (refine V.s1 ?_; (try simp only [hkc, hi, List.length_cons, List.getD_cons_succ])) | ((with_reducible refine recheck_and ?_ ?_); (focus ((conv => whnf); (try simp only [hkc, hi, List.length_cons, List.getD_cons_succ]); (repeat (refine V.s1 ?_; (try simp only [hkc, hi, List.length_cons, List.getD_cons_succ]))); exact ⟨rfl⟩)); (conv => whnf); (try simp only [hkc, hi, List.length_cons, List.getD_cons_succ])))
      refine ⟨k + 1, by omega, by omega, ?_⟩
      rw [ht]
      exact V.wk
    · rw [decide_eq_false_iff_not] at hq
      have hk2 : k = xs.length := by omega
      (conv => whnf)
      (try simp only [hk2, List.take_length])
      repeat (first | (refine V.s1 ?_; (try simp only [hk2, List.take_length])) | ((with_reducible refine recheck_and ?_ ?_); (focus ((conv => whnf); (try simp only [hk2, List.take_length]); (repeat (refine V.s1 ?_; (try simp only [hk2, List.take_length]))); exact ⟨rfl⟩)); (conv => whnf); (try simp only [hk2, List.take_length])))
      exact Fin.of rfl
end Go.Proofs.YtplflfnfodghmaaGreatDoor
end
section
namespace Go.Proofs.YtplflfnfodghmaaGreatDoor
open Go Go.V Go.Nb
theorem least_c (x : Int) (xs : List Int) (hl : xs.length < 1000) : Called Tryz.prog 133 [.ints .i64 (x :: xs)] (.int .i64 (xs.foldl min x)) := by
  have h := minS_c x xs hl
  refine called_of_run tbOk 6 ⟨Tryz.func133, rfl, rfl, Nat.le_of_ble_eq_true rfl⟩ ?_
  (conv => whnf)
  refine V.st ?_
  repeat ((try ((with_reducible refine .ext ?_); (conv => whnf))); (with_reducible refine call_intro (r := ?_) ?_ ?_); rotate_left; (focus (first | exact (h))); (conv => whnf); refine V.st ?_)
  exact Fin.of rfl
theorem greatest_c (x : Int) (xs : List Int) (hl : xs.length < 1000) : Called Tryz.prog 70 [.ints .i64 (x :: xs)] (.int .i64 (xs.foldl max x)) := by
  have h := maxS_c x xs hl
  refine called_of_run tbOk 6 ⟨Tryz.func70, rfl, rfl, Nat.le_of_ble_eq_true rfl⟩ ?_
  (conv => whnf)
  refine V.st ?_
  repeat ((try ((with_reducible refine .ext ?_); (conv => whnf))); (with_reducible refine call_intro (r := ?_) ?_ ?_); rotate_left; (focus (first | exact (h))); (conv => whnf); refine V.st ?_)
  exact Fin.of rfl
theorem check_b (p q : Int) : Called Tryz.prog 36 [bA p q] (.int .i64 (if vb p q = true then 0 else 30)) := by
  have h := valid_c p q
  generalize vb p q = v at *
  refine called_of_run tbOk 6 ⟨Tryz.func36, rfl, rfl, Nat.le_of_ble_eq_true rfl⟩ ?_
  (conv => whnf)
  refine V.st ?_
  repeat ((try ((with_reducible refine .ext ?_); (conv => whnf))); (with_reducible refine call_intro (r := ?_) ?_ ?_); rotate_left; (focus (first | exact (h))); (conv => whnf); refine V.st ?_)
  refine Cnd.split (CondB.mk (fun hq => ?_) (fun hq => ?_))
  · simp at hq
    subst hq
    (conv => whnf)
    refine V.st ?_
    exact Fin.of rfl
  · simp at hq
    subst hq
    (conv => whnf)
    refine V.st ?_
    exact Fin.of rfl
theorem of_b (p q : Int) : Called Tryz.prog 34 [.int .i64 p, .int .i64 q] (bD (if vb p q = true then (p, q, 0) else (0, 0, 30))) := by
  have h := valid_c p q
  generalize vb p q = v at *
  refine called_of_run tbOk 6 ⟨Tryz.func34, rfl, rfl, Nat.le_of_ble_eq_true rfl⟩ ?_
  (conv => whnf)
  refine V.st ?_
  repeat ((try ((with_reducible refine .ext ?_); (conv => whnf))); (with_reducible refine call_intro (r := ?_) ?_ ?_); rotate_left; (focus (first | exact (h))); (conv => whnf); refine V.st ?_)
  refine Cnd.split (CondB.mk (fun hq => ?_) (fun hq => ?_))
  · simp at hq
    subst hq
    (conv => whnf)
    refine V.st ?_
    exact Fin.of rfl
  · simp at hq
    subst hq
    (conv => whnf)
    refine V.st ?_
    exact Fin.of rfl
theorem point_b (p : Int) : Called Tryz.prog 32 [.int .i64 p] (bD (if vb p p = true then (p, p, 0) else (0, 0, 30))) := by
  have h := of_b p p
  generalize (if vb p p = true then (p, p, (0 : Int)) else (0, 0, 30)) = r at *
  refine called_of_run tbOk 6 ⟨Tryz.func32, rfl, rfl, Nat.le_of_ble_eq_true rfl⟩ ?_
  (conv => whnf)
  refine V.st ?_
  repeat ((try ((with_reducible refine .ext ?_); (conv => whnf))); (with_reducible refine call_intro (r := ?_) ?_ ?_); rotate_left; (focus (first | exact (h))); (conv => whnf); refine V.st ?_)
  exact Fin.of rfl
def cmpB (p q p2 q2 : Int) : Int := if q2 < p then 1 else if q < p2 then -1 else if (p = p2 ∧ q = q2) ∧ p = q then 0 else 2
theorem abs_b (p q : Int) : Called Tryz.prog 11 [bA p q] (bD (if vb p q = true then mk (max (max p (0 - q)) 0) (max (0 - p) q) else (0, 0, 30))) := by
  by_cases hv : vb p q = true
  · rw [if_pos hv]
    have hb := vb_iff.1 hv
    have hc : Called Tryz.prog 69 [.ref [.int .i64 p, .int .i64 q]] (bD (mk (max (max p (0 - q)) 0) (max (0 - p) q))) := by
      have g1 := greatest_c p [0 - q, 0] (by simp)
      have g2 := greatest_c (0 - p) [q] (by simp)
      have hm := made_b (max (max p (0 - q)) 0) (max (0 - p) q)
      rw [show [0 - q, 0].foldl max p = max (max p (0 - q)) 0 from rfl] at g1
      rw [show [q].foldl max (0 - p) = max (0 - p) q from rfl] at g2
      generalize max (max p (0 - q)) 0 = a at *
      generalize max (0 - p) q = c at *
      generalize mk a c = r at *
      refine called_of_run tbOk 6 ⟨Tryz.func69, rfl, rfl, Nat.le_of_ble_eq_true rfl⟩ ?_
      (conv => whnf)
      refine V.st ?_
      refine ⟨(.take 0 (.take 1 (.take 2 (.take 3 (.take 4 (.take 7 (.take 8 (.take 9 (.take 10 (.take 11 (.ev (.cons 5 [11, 10, 9, 8, 7] (.ev (.cons 6 [11, 10, 9, 8, 7] (.ev (.cons 12 [] (.ev (.cons 13 [] (.ev (.cons 14 [] (.take 15 (.take 16 (.ev (.cons 17 [] (.take 18 (.done)) (.nil))))) (.nil))) (.nil))) (.nil))) (.cons 12 [] (.ev (.cons 6 [] (.ev (.cons 13 [] (.ev (.cons 14 [] (.take 15 (.take 16 (.ev (.cons 17 [] (.take 18 (.done)) (.nil))))) (.nil))) (.nil))) (.nil))) (.nil)))) (.cons 12 [4, 3, 2, 1, 0] (.ev (.cons 5 [] (.ev (.cons 6 [] (.ev (.cons 13 [] (.ev (.cons 14 [] (.take 15 (.take 16 (.ev (.cons 17 [] (.take 18 (.done)) (.nil))))) (.nil))) (.nil))) (.nil))) (.nil))) (.nil)))))))))))))), ⟨by kernel_rfl, by kernel_rfl, by kernel_rfl⟩, ?_⟩
      refine drw_meet [(2, .int .i64 r.2.2)] [(1, .box [.int .i64 r.1, .int .i64 r.2.1])] ?_ ?_
      · (conv => whnf); (try simp only [Nat.zero_add])
        repeat' (first | exact V.wk | (refine V.s1 ?_; (try simp only [Nat.zero_add])) | ((with_reducible refine recheck_and ?_ ?_); (focus ((conv => whnf); (try simp only [Nat.zero_add]); (repeat (refine V.s1 ?_; (try simp only [Nat.zero_add]))); exact ⟨rfl⟩)); (conv => whnf); (try simp only [Nat.zero_add])) | ((try ((with_reducible refine .ext ?_); (conv => whnf); (try simp only [Nat.zero_add]))); (with_reducible refine call_intro (r := ?_) ?_ ?_); rotate_left; (focus (first | exact (g1) | exact (g2) | exact (hm))); (conv => whnf); (try simp only [Nat.zero_add])) | (refine And.intro ?_ ?_ <;> (conv => whnf); (try simp only [Nat.zero_add])))
      (conv => whnf)
      refine V.st ?_
      exact Fin.of rfl
    have hk := ckb1_ok 69 p q (mk (max (max p (0 - q)) 0) (max (0 - p) q)).1 (mk (max (max p (0 - q)) 0) (max (0 - p) q)).2.1 (mk (max (max p (0 - q)) 0) (max (0 - p) q)).2.2 1 (l1 p q) (fun _ => p) (fun _ => q) (l1_c p q) (by omega) (fun _ _ => hv) hc
    generalize mk (max (max p (0 - q)) 0) (max (0 - p) q) = r at *
    refine called_of_run tbOk 6 ⟨Tryz.func11, rfl, rfl, Nat.le_of_ble_eq_true rfl⟩ ?_
    (conv => whnf)
    refine V.st ?_
    repeat ((try ((with_reducible refine .ext ?_); (conv => whnf))); (with_reducible refine call_intro (r := ?_) ?_ ?_); rotate_left; (focus (first | exact (hk))); (conv => whnf); refine V.st ?_)
    exact Fin.of rfl
  · rw [if_neg hv]
    have hk := ckb1_no 69 p q 0 0 0 1 (l1 p q) (fun _ => p) (fun _ => q) (l1_c p q) (by omega) (one_no hv)
    refine called_of_run tbOk 6 ⟨Tryz.func11, rfl, rfl, Nat.le_of_ble_eq_true rfl⟩ ?_
    (conv => whnf)
    refine V.st ?_
    repeat ((try ((with_reducible refine .ext ?_); (conv => whnf))); (with_reducible refine call_intro (r := ?_) ?_ ?_); rotate_left; (focus (first | exact (hk))); (conv => whnf); refine V.st ?_)
    exact Fin.of rfl
theorem cmp_b (p q p2 q2 : Int) : Called Tryz.prog 30 [bA p q, bA p2 q2] (iD (if vb p q = true ∧ vb p2 q2 = true then (cmpB p q p2 q2, 0) else (0, 30))) := by
  by_cases hv : vb p q = true ∧ vb p2 q2 = true
  · rw [if_pos hv]
    have hb := vb_iff.1 hv.1
    have hb2 := vb_iff.1 hv.2
    have hc : Called Tryz.prog 93 [.ref [.int .i64 p, .int .i64 q], .ref [.int .i64 p2, .int .i64 q2]] (iD ((cmpB p q p2 q2, 0))) := by
      unfold cmpB
      refine called_of_run tbOk 6 ⟨Tryz.func93, rfl, rfl, Nat.le_of_ble_eq_true rfl⟩ ?_
      (conv => whnf)
      refine V.st ?_
      refine Cnd.split (CondB.mk (fun h1 => ?_) (fun h1 => ?_))
      · rw [decide_eq_true_eq] at h1
        rw [if_pos h1]
        (conv => whnf)
        refine V.st ?_
        exact Fin.of rfl
      · rw [decide_eq_false_iff_not] at h1
        rw [if_neg h1]
        (conv => whnf)
        refine V.st ?_
        refine Cnd.split (CondB.mk (fun h2 => ?_) (fun h2 => ?_))
        · rw [decide_eq_true_eq] at h2
          rw [if_pos h2]
          (conv => whnf)
          refine V.st ?_
          exact Fin.of rfl
        · rw [decide_eq_false_iff_not] at h2
          rw [if_neg h2]
          (conv => whnf)
          refine V.st ?_
          refine Cnd.split (CondB.mk (fun h3 => ?_) (fun h3 => ?_))
          · simp only [Bool.and_true, Bool.and_eq_true, decide_eq_true_eq] at h3
            rw [if_pos h3]
            (conv => whnf)
            refine V.st ?_
            exact Fin.of rfl
          · rw [if_neg (fun h => by simp only [Bool.and_true, Bool.and_eq_false_iff, decide_eq_false_iff_not] at h3; omega)]
            (conv => whnf)
            refine V.st ?_
            exact Fin.of rfl
    have hk := cki2_ok 93 p q p2 q2 ((cmpB p q p2 q2, 0)).1 ((cmpB p q p2 q2, 0)).2 2 (l2 p q p2 q2) (sel p p2) (sel q q2) (l2_c p q p2 q2) (by omega) (sel_ok hv.1 hv.2) hc
    generalize (cmpB p q p2 q2, 0) = r at *
    refine called_of_run tbOk 6 ⟨Tryz.func30, rfl, rfl, Nat.le_of_ble_eq_true rfl⟩ ?_
    (conv => whnf)
    refine V.st ?_
    repeat ((try ((with_reducible refine .ext ?_); (conv => whnf))); (with_reducible refine call_intro (r := ?_) ?_ ?_); rotate_left; (focus (first | exact (hk))); (conv => whnf); refine V.st ?_)
    exact Fin.of rfl
  · rw [if_neg hv]
    have hk := cki2_no 93 p q p2 q2 0 0 2 (l2 p q p2 q2) (sel p p2) (sel q q2) (l2_c p q p2 q2) (by omega) (sel_no hv)
    refine called_of_run tbOk 6 ⟨Tryz.func30, rfl, rfl, Nat.le_of_ble_eq_true rfl⟩ ?_
    (conv => whnf)
    refine V.st ?_
    repeat ((try ((with_reducible refine .ext ?_); (conv => whnf))); (with_reducible refine call_intro (r := ?_) ?_ ?_); rotate_left; (focus (first | exact (hk))); (conv => whnf); refine V.st ?_)
    exact Fin.of rfl
end Go.Proofs.YtplflfnfodghmaaGreatDoor
end
section
namespace Go.Proofs.YtplflfnfodghmaaGreatDoor
open Go Go.V Go.Nb
theorem near_f (s t : List UInt8) (sc : Nat) (h : okP s t = true) (h1 : 1 ≤ sc) (h2 : sc ≤ 1000000000000) (hz : -9223372036854775808 ≤ nearZ (qv s t) sc ∧ nearZ (qv s t) sc ≤ 9223372036854775807) :
    Called Tryz.prog 99 [.agg [.str s, .str t], .int .i64 sc] (.tup [.int .i64 (nearZ (qv s t) sc), .int .i64 0]) := by
  have r1 := read_ok s t h
  have q1 := qv_size h
  have f1 := fromSmall_c sc (by omega)
  have lsc : (mg 1000000000 sc).length ≤ 2 := mg_len_le (by omega) (by omega)
  have n1 := near_r (qv s t) sc (q1.1.mono (by omega)) (Nat.le_trans q1.2 (by omega)) (by omega)
  clear q1
  generalize nearZ (qv s t) sc = z at *
  have lz : (mg 1000000000 z.natAbs).length ≤ 3 := mg_len_le (by omega) (by omega)
  have x1 := ftext_c z (by omega)
  have i1 := int_c z hz.1 hz.2
  clear lz lsc
  unfold rtD at *
  refine called_of_run tbOk 6 ⟨Tryz.func99, rfl, rfl, Nat.le_of_ble_eq_true rfl⟩ ?_
  (conv => whnf)
  refine V.st ?_
  repeat ((try ((with_reducible refine .ext ?_); (conv => whnf))); (with_reducible refine call_intro (r := ?_) ?_ ?_); rotate_left; (focus (first | exact (r1))); (conv => whnf); refine V.st ?_)
  refine Cnd.split (CondB.mk (fun g1 => ?_) (fun g1 => ?_))
  · simp at g1
    omega
  · (conv => whnf)
    refine V.st ?_
    refine ⟨(.take 0 (.take 1 (.take 2 (.ev (.cons 3 [0] (.ev (.cons 4 [] (.ev (.cons 5 [] (.ev (.cons 6 [] (.take 7 (.take 8 (.take 9 (.take 10 (.take 11 (.done)))))) (.nil))) (.nil))) (.nil))) (.nil)))))), ⟨by kernel_rfl, by kernel_rfl, by kernel_rfl⟩, .go ?_⟩
    (conv => whnf)
    refine V.st ?_
    repeat ((try ((with_reducible refine .ext ?_); (conv => whnf))); (with_reducible refine call_intro (r := ?_) ?_ ?_); rotate_left; (focus (first | exact (f1) | exact (n1) | exact (x1) | exact (i1))); (conv => whnf); refine V.st ?_)
    exact Fin.of rfl
theorem okP_dec {q : Rat} (h : okF q = true) : okP (decZ q.num) (dec q.den) = true ∧ qv (decZ q.num) (dec q.den) = q := by
  unfold okF at h
  simp only [Bool.and_eq_true, decide_eq_true_eq] at h
  have hdz : dec q.den = decZ (q.den : Int) := by unfold decZ; rw [if_neg (by omega), Int.natAbs_natCast]
  have w1 : wval (decZ q.num) = q.num := wval_decZ _
  have w2 : wval (dec q.den) = (q.den : Int) := by rw [hdz]; exact wval_decZ _
  have o1 := okW_decZ q.num h.1
  have o2 : okW (dec q.den) = true := by rw [hdz]; exact okW_decZ _ (by rw [Int.natAbs_natCast]; exact h.2)
  have hp := q.den_pos
  constructor
  · unfold okP
    rw [o1, o2, w1, w2]
    simp only [Bool.and_eq_true, decide_eq_true_eq, Bool.true_and, Int.natAbs_natCast]
    exact ⟨by omega, q.reduced⟩
  · unfold qv
    rw [w1, w2]
    exact Rat.num_divInt_den q
theorem okF_small {q : Rat} (h1 : q.num.natAbs < 10 ^ 20) (h2 : q.den < 10 ^ 20) : okF q = true := by
  unfold okF
  simp only [Bool.and_eq_true, decide_eq_true_eq]
  exact ⟨Nat.le_trans (pad_dec 20 _ (by omega) h1).1 (by omega), Nat.le_trans (pad_dec 20 _ (by omega) h2).1 (by omega)⟩
theorem divInt_le (n : Int) (d : Nat) (hd : 0 < d) : (Rat.divInt n d).num.natAbs ≤ n.natAbs ∧ (Rat.divInt n d).den ≤ d := by
  obtain ⟨h1, _, h3⟩ := divInt_parts n d hd
  rw [h1, h3]
  exact ⟨Nat.div_le_self _ _, Nat.div_le_self _ _⟩
theorem okF_unit (n : Int) (h : -9223372036854775808 ≤ n ∧ n ≤ 9223372036854775807) : okF (Rat.divInt n 1000000000000) = true := by
  have := divInt_le n 1000000000000 (by omega)
  have e : Rat.divInt n 1000000000000 = Rat.divInt n ((1000000000000 : Nat) : Int) := rfl
  rw [e]
  refine okF_small ?_ ?_
  · exact Nat.lt_of_le_of_lt this.1 (by omega)
  · exact Nat.lt_of_le_of_lt this.2 (by omega)
def unit (n : Int) : Rat := Rat.divInt n 1000000000000
theorem of_unit (n : Int) (h : -9223372036854775808 ≤ n ∧ n ≤ 9223372036854775807) : Called Tryz.prog 49 [.int .i64 n, .int .i64 1000000000000] (.tup [.agg [.str (decZ (unit n).num), .str (dec (unit n).den)], .int .i64 0]) := by
  have h1 := of_c n 1000000000000 (by simp only [InR, V.lo, V.hi]; omega) (by constructor <;> decide) (by decide)
  have h2 := okF_unit n h
  unfold frR at h1
  rw [h2] at h1
  exact h1
def aroundR (x : Rat) : Int × Int × Int := if vb (nearZ x 1000000000000) (nearZ x 1000000000000) = true then mk (nearZ x 1000000000000 + min (ordQ x (unit (nearZ x 1000000000000))) 0) (nearZ x 1000000000000 + max (ordQ x (unit (nearZ x 1000000000000))) 0) else (0, 0, 6)
theorem ordQ_r (x y : Rat) : -1 ≤ ordQ x y ∧ ordQ x y ≤ 1 := by
  unfold ordQ; split
  · omega
  · split <;> omega
theorem around_b (s t : List UInt8) (h : okP s t = true) (hz : -9223372036854775808 ≤ nearZ (qv s t) 1000000000000 ∧ nearZ (qv s t) 1000000000000 ≤ 9223372036854775807) :
    Called Tryz.prog 42 [.agg [.str s, .str t]] (bD (aroundR (qv s t))) := by
  have n1 := near_f s t 1000000000000 h (by omega) (by omega) hz
  unfold aroundR
  generalize nearZ (qv s t) 1000000000000 = n at *
  have o1 := of_unit n hz
  obtain ⟨p1, p2⟩ := okP_dec (okF_unit n hz)
  have c1 := fcmp_ok s t (decZ (unit n).num) (dec (unit n).den) h p1
  rw [show qv (decZ (unit n).num) (dec (unit n).den) = unit n from p2] at c1
  have hr := ordQ_r (qv s t) (unit n)
  generalize ordQ (qv s t) (unit n) = o at *
  generalize decZ (unit n).num = u at *
  generalize dec (unit n).den = v at *
  clear p1 p2 h
  have v1 := valid_c n n
  have m1 := made_b (n + min o 0) (n + max o 0)
  by_cases hv : vb n n = true
  · rw [if_pos hv]
    rw [hv] at v1
    have hb := vb_iff.1 hv
    generalize mk (n + min o 0) (n + max o 0) = r at *
    refine called_of_run tbOk 6 ⟨Tryz.func42, rfl, rfl, Nat.le_of_ble_eq_true rfl⟩ ?_
    (conv => whnf)
    refine V.st ?_
    repeat ((try ((with_reducible refine .ext ?_); (conv => whnf))); (with_reducible refine call_intro (r := ?_) ?_ ?_); rotate_left; (focus (first | exact (n1) | exact (o1) | exact (c1) | exact (v1) | exact (m1))); (conv => whnf); refine V.st ?_)
    exact Fin.of rfl
  · rw [if_neg hv]
    rw [Bool.eq_false_iff.2 hv] at v1
    refine called_of_run tbOk 6 ⟨Tryz.func42, rfl, rfl, Nat.le_of_ble_eq_true rfl⟩ ?_
    (conv => whnf)
    refine V.st ?_
    repeat ((try ((with_reducible refine .ext ?_); (conv => whnf))); (with_reducible refine call_intro (r := ?_) ?_ ?_); rotate_left; (focus (first | exact (n1) | exact (o1) | exact (c1) | exact (v1))); (conv => whnf); refine V.st ?_)
    exact Fin.of rfl
end Go.Proofs.YtplflfnfodghmaaGreatDoor
end
section
namespace Go.Proofs.YtplflfnfodghmaaGreatDoor
open Go Go.V Go.Nb
theorem size_c (x : Int) (h : -9223372036854775808 < x) : Called Tryz.prog 130 [.int .i64 x] (.int .u64 (x.natAbs : Int)) := by
  refine called_of_run tbOk 6 ⟨Tryz.func130, rfl, rfl, Nat.le_of_ble_eq_true rfl⟩ ?_
  (conv => whnf)
  refine V.st ?_
  refine Cnd.split (CondB.mk (fun hq => ?_) (fun hq => ?_))
  · rw [decide_eq_true_eq] at hq
    have e : ((x.natAbs : Nat) : Int) = 0 - x := by omega
    rw [e]
    (conv => whnf)
    refine V.st ?_
    exact Fin.of rfl
  · rw [decide_eq_false_iff_not] at hq
    have e : ((x.natAbs : Nat) : Int) = x := by omega
    rw [e]
    (conv => whnf)
    refine V.st ?_
    exact Fin.of rfl
theorem mul64_c (x y : Nat) (hx : x < 18446744073709551616) (hy : y < 18446744073709551616) : Called Tryz.prog 129 [.int .u64 x, .int .u64 y] (.tup [.int .u64 (x * y / 18446744073709551616 : Nat), .int .u64 (x * y % 18446744073709551616 : Nat)]) := by
  refine called_of_grown Tryz.func129 rfl rfl rfl fun w hp vs ha hd => ?_
  simp only [DenL, Den] at hd
  obtain ⟨v, _, rfl, ⟨rfl, h1⟩, v2, _, rfl, ⟨rfl, h2⟩, rfl⟩ := hd
  refine (Tryz.bits_Mul64 x y hx hy w).mono fun e w' ⟨he, hw⟩ => ⟨⟨_, he, fun hp => ?_⟩, ?_⟩
  · simp only [Den, DenL]
    have k1 : x * y / 18446744073709551616 < 18446744073709551616 := by
      refine Nat.div_lt_of_lt_mul ?_
      exact Nat.mul_lt_mul'' hx hy
    have k2 := Nat.mod_lt (x * y) (by omega : 18446744073709551616 > 0)
    generalize x * y / 18446744073709551616 = a at *
    generalize x * y % 18446744073709551616 = c at *
    exact ⟨_, rfl, _, _, rfl, ⟨rfl, by constructor <;> simp only [V.lo, V.hi] <;> omega⟩, _, _, rfl, ⟨rfl, by constructor <;> simp only [V.lo, V.hi] <;> omega⟩, rfl⟩
  · rw [hw]; exact RowKit.Below.refl _ _
end Go.Proofs.YtplflfnfodghmaaGreatDoor
end
