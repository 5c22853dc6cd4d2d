/- What some functions of the program answer at values that mean given lists, texts and numbers, each proved of the program's own code: part 8 of 8. Conditions: those that each theorem names. -/
import Derived.Test.YtplflfnfodghmaaGreatDoorG7
set_option linter.unusedSimpArgs false
set_option linter.unusedVariables false
section
/-! the reference's bands: Neg, Abs, Clamp, Scale, Sqr -/
set_option linter.unusedSimpArgs false
set_option linter.unusedVariables false
set_option maxHeartbeats 8000000
set_option maxRecDepth 100000
namespace Go.Proofs.YtplflfnfodghmaaGreatDoor
open Go Go.V Go.Nb
theorem neg_r (p q : Int) : Called Tryz.prog 13 [bA p q] (bD (if vb p q = true then mk (0 - q) (0 - p) else (0, 0, 30))) := by
  have r1 := right03_c p q
  by_cases hv : vb p q = true
  · rw [if_pos hv]
    rw [hv] at r1
    have b1 := vb_iff.1 hv
    rw [mk_ok (by omega)]
    refine called_of_run tbOk 6 ⟨Tryz.func13, rfl, rfl, Nat.le_of_ble_eq_true rfl⟩ ?_
    (conv => whnf)
    refine V.st ?_
    repeat ((try ((with_reducible refine .ext ?_); (conv => whnf))); (with_reducible refine call_intro (r := ?_) ?_ ?_); rotate_left; (focus (first | exact (r1))); (conv => whnf); refine V.st ?_)
    exact Fin.of rfl
  · rw [if_neg hv]
    rw [Bool.eq_false_iff.2 hv] at r1
    refine called_of_run tbOk 6 ⟨Tryz.func13, rfl, rfl, Nat.le_of_ble_eq_true rfl⟩ ?_
    (conv => whnf)
    refine V.st ?_
    repeat ((try ((with_reducible refine .ext ?_); (conv => whnf))); (with_reducible refine call_intro (r := ?_) ?_ ?_); rotate_left; (focus (first | exact (r1))); (conv => whnf); refine V.st ?_)
    exact Fin.of rfl
theorem abs_r (p q : Int) : Called Tryz.prog 14 [bA p q] (bD (if vb p q = true then mk (max (max p (0 - q)) 0) (max (0 - p) q) else (0, 0, 30))) := by
  have r1 := right03_c p q
  by_cases hv : vb p q = true
  · rw [if_pos hv]
    rw [hv] at r1
    rw [abs_mk hv]
    have b1 := vb_iff.1 hv
    refine called_of_run tbOk 6 ⟨Tryz.func14, rfl, rfl, Nat.le_of_ble_eq_true rfl⟩ ?_
    (conv => whnf)
    refine V.st ?_
    repeat ((try ((with_reducible refine .ext ?_); (conv => whnf))); (with_reducible refine call_intro (r := ?_) ?_ ?_); rotate_left; (focus (first | exact (r1))); (conv => whnf); refine V.st ?_)
    refine Cnd.split (CondB.mk (fun g1 => ?_) (fun g1 => ?_))
    · rw [decide_eq_true_eq] at g1
      rw [show max (max p (0 - q)) 0 = p by omega, show max (0 - p) q = q by omega]
      (conv => whnf)
      refine V.st ?_
      exact Fin.of rfl
    · rw [decide_eq_false_iff_not] at g1
      (conv => whnf)
      refine V.st ?_
      refine Cnd.split (CondB.mk (fun g2 => ?_) (fun g2 => ?_))
      · rw [decide_eq_true_eq] at g2
        rw [show max (max p (0 - q)) 0 = 0 - q by omega, show max (0 - p) q = 0 - p by omega]
        (conv => whnf)
        refine V.st ?_
        exact Fin.of rfl
      · rw [decide_eq_false_iff_not] at g2
        rw [show max (max p (0 - q)) 0 = 0 by omega]
        (conv => whnf)
        refine V.st ?_
        exact Fin.of rfl
  · rw [if_neg hv]
    rw [Bool.eq_false_iff.2 hv] at r1
    refine called_of_run tbOk 6 ⟨Tryz.func14, rfl, rfl, Nat.le_of_ble_eq_true rfl⟩ ?_
    (conv => whnf)
    refine V.st ?_
    repeat ((try ((with_reducible refine .ext ?_); (conv => whnf))); (with_reducible refine call_intro (r := ?_) ?_ ?_); rotate_left; (focus (first | exact (r1))); (conv => whnf); refine V.st ?_)
    exact Fin.of rfl
theorem clamp_r (p q lo hi : Int) : Called Tryz.prog 19 [bA p q, .int .i64 lo, .int .i64 hi] (bD (if vb p q = true then (if vb lo hi = true then mk (min (max p lo) hi) (min (max q lo) hi) else (0, 0, 2)) else (0, 0, 30))) := by
  have r1 := right03_c p q
  have r2 := right03_c lo hi
  by_cases hv : vb p q = true
  · rw [if_pos hv]
    rw [hv] at r1
    have b1 := vb_iff.1 hv
    by_cases hw : vb lo hi = true
    · rw [if_pos hw]
      rw [hw] at r2
      have b2 := vb_iff.1 hw
      rw [mk_ok (by omega)]
      refine called_of_run tbOk 6 ⟨Tryz.func19, rfl, rfl, Nat.le_of_ble_eq_true rfl⟩ ?_
      (conv => whnf)
      refine V.st ?_
      repeat ((try ((with_reducible refine .ext ?_); (conv => whnf))); (with_reducible refine call_intro (r := ?_) ?_ ?_); rotate_left; (focus (first | exact (r1) | exact (r2))); (conv => whnf); refine V.st ?_)
      exact Fin.of rfl
    · rw [if_neg hw]
      rw [Bool.eq_false_iff.2 hw] at r2
      refine called_of_run tbOk 6 ⟨Tryz.func19, rfl, rfl, Nat.le_of_ble_eq_true rfl⟩ ?_
      (conv => whnf)
      refine V.st ?_
      repeat ((try ((with_reducible refine .ext ?_); (conv => whnf))); (with_reducible refine call_intro (r := ?_) ?_ ?_); rotate_left; (focus (first | exact (r1) | exact (r2))); (conv => whnf); refine V.st ?_)
      exact Fin.of rfl
  · rw [if_neg hv]
    rw [Bool.eq_false_iff.2 hv] at r1
    refine called_of_run tbOk 6 ⟨Tryz.func19, rfl, rfl, Nat.le_of_ble_eq_true rfl⟩ ?_
    (conv => whnf)
    refine V.st ?_
    repeat ((try ((with_reducible refine .ext ?_); (conv => whnf))); (with_reducible refine call_intro (r := ?_) ?_ ?_); rotate_left; (focus (first | exact (r1))); (conv => whnf); refine V.st ?_)
    exact Fin.of rfl
theorem scale_r (p q n d : Int) (hn : InR .i64 n) (hd : InR .i64 d) : Called Tryz.prog 17 [bA p q, .int .i64 n, .int .i64 d] (bD (if vb p q = true then (if -1000000000000 ≤ n ∧ n ≤ 1000000000000 ∧ 1 ≤ d ∧ d ≤ 1000000000000 then sclR p q n d else (0, 0, 2)) else (0, 0, 30))) := by
  have r1 := right03_c p q
  by_cases hv : vb p q = true
  · rw [if_pos hv]
    rw [hv] at r1
    have b1 := vb_iff.1 hv
    by_cases hz : -1000000000000 ≤ n ∧ n ≤ 1000000000000 ∧ 1 ≤ d ∧ d ≤ 1000000000000
    · rw [if_pos hz]
      have ir : ∀ z : Int, -1000000000000000000 ≤ z ∧ z ≤ 1000000000000000000 → InR .i64 z := fun z hz => by simp only [InR, V.lo, V.hi]; omega
      have v1 := value_c p (ir p (by omega))
      have v2 := value_c q (ir q (by omega))
      rw [show ∀ z, Rat.divInt z 1000000000000 = unit z from fun _ => rfl] at v1 v2
      have k1 := quick_c n d hn hd (by omega)
      have q1 : Q4 5 (unit p) := unit_q4 p (by omega)
      have q2 : Q4 5 (unit q) := unit_q4 q (by omega)
      have q3 : Q4 5 (Rat.divInt n d) := divInt_q4 n d (by omega) (by omega) (by omega)
      have m1 := times02_c (unit p) (Rat.divInt n d) (q1.mono (by omega)) (q3.mono (by omega))
      have m2 := times02_c (unit q) (Rat.divInt n d) (q2.mono (by omega)) (q3.mono (by omega))
      have z1 : Q4 1000 (unit p * Rat.divInt n d) := (q1.mul q3).mono (by omega)
      have z2 : Q4 1000 (unit q * Rat.divInt n d) := (q2.mul q3).mono (by omega)
      have t := tight2 (unit p * Rat.divInt n d) (unit q * Rat.divInt n d)
      rw [loE_scl _ _ _ (by omega), loE_scl _ _ _ (by omega), hiE_scl _ _ _ (by omega), hiE_scl _ _ _ (by omega), ← scl_two] at t
      rw [← t]
      clear t ir q1 q2 q3
      generalize unit p * Rat.divInt n d = x1 at *
      generalize unit q * Rat.divInt n d = x2 at *
      have bt := fun f h0 h => between_c x1 [x2] (by simp) z1 (fun y hy => by simp only [List.mem_cons, List.not_mem_nil, or_false] at hy; rcases hy with rfl; assumption) f h0 h
      generalize tightR ([x2].foldl lsr x1) ([x2].foldl gtr x1) = r at *
      have bt := bt (fun k => List.take 4 (List.drop (0 + k * 4) (raL x1 ++ raL x2))) rfl (fun j hj => by
        simp only [List.length_cons, List.length_nil] at hj
        obtain rfl : j = 0 := by omega
        rfl)
      refine called_of_run tbOk 6 ⟨Tryz.func17, rfl, rfl, Nat.le_of_ble_eq_true rfl⟩ ?_
      (conv => whnf)
      refine V.st ?_
      repeat ((try ((with_reducible refine .ext ?_); (conv => whnf))); (with_reducible refine call_intro (r := ?_) ?_ ?_); rotate_left; (focus (first | exact (r1))); (conv => whnf); refine V.st ?_)
      refine Cnd.split (CondB.mk (fun g1 => ?_) (fun g1 => ?_))
      · simp at g1
        omega
      (conv => whnf)
      refine V.st ?_
      repeat ((try ((with_reducible refine .ext ?_); (conv => whnf))); (with_reducible refine call_intro (r := ?_) ?_ ?_); rotate_left; (focus (first | exact (k1))); (conv => whnf); refine V.st ?_)
      refine ⟨(.take 0 (.take 1 (.take 3 (.take 5 (.take 6 (.take 8 (.ev (.cons 2 [8, 6, 5, 3] (.ev (.cons 4 [8, 6, 5] (.ev (.cons 7 [8] (.ev (.cons 9 [] (.ev (.cons 10 [] (.ev (.cons 11 [] (.take 12 (.take 13 (.ev (.cons 14 [] (.take 15 (.done)) (.nil))))) (.nil))) (.nil))) (.nil))) (.nil))) (.nil))) (.nil))))))))), ⟨by kernel_rfl, by kernel_rfl, by kernel_rfl⟩, .go ?_⟩
      (conv => whnf)
      refine V.st ?_
      repeat ((try ((with_reducible refine .ext ?_); (conv => whnf))); (with_reducible refine call_intro (r := ?_) ?_ ?_); rotate_left; (focus (first | exact (v1) | exact (m1) | exact (v2) | exact (m2) | exact (bt))); (conv => whnf); refine V.st ?_)
      exact Fin.of rfl
    · rw [if_neg hz]
      refine called_of_run tbOk 6 ⟨Tryz.func17, rfl, rfl, Nat.le_of_ble_eq_true rfl⟩ ?_
      (conv => whnf)
      refine V.st ?_
      repeat ((try ((with_reducible refine .ext ?_); (conv => whnf))); (with_reducible refine call_intro (r := ?_) ?_ ?_); rotate_left; (focus (first | exact (r1))); (conv => whnf); refine V.st ?_)
      refine Cnd.split (CondB.mk (fun g1 => ?_) (fun g1 => ?_))
      · (conv => whnf)
        refine V.st ?_
        exact Fin.of rfl
      · simp at g1
        omega
  · rw [if_neg hv]
    rw [Bool.eq_false_iff.2 hv] at r1
    refine called_of_run tbOk 6 ⟨Tryz.func17, rfl, rfl, Nat.le_of_ble_eq_true rfl⟩ ?_
    (conv => whnf)
    refine V.st ?_
    repeat ((try ((with_reducible refine .ext ?_); (conv => whnf))); (with_reducible refine call_intro (r := ?_) ?_ ?_); rotate_left; (focus (first | exact (r1))); (conv => whnf); refine V.st ?_)
    exact Fin.of rfl
theorem sqr_r (p q : Int) : Called Tryz.prog 15 [bA p q] (bD (if vb p q = true then sqrR p q else (0, 0, 30))) := by
  have r1 := right03_c p q
  by_cases hv : vb p q = true
  · rw [if_pos hv]
    rw [hv] at r1
    have b1 := vb_iff.1 hv
    have ir : ∀ z : Int, -1000000000000000000 ≤ z ∧ z ≤ 1000000000000000000 → InR .i64 z := fun z hz => by simp only [InR, V.lo, V.hi]; omega
    have v1 := value_c p (ir p (by omega))
    have v2 := value_c q (ir q (by omega))
    rw [show ∀ z, Rat.divInt z 1000000000000 = unit z from fun _ => rfl] at v1 v2
    have k1 := quick_c 0 1 (by constructor <;> decide) (by constructor <;> decide) (by decide)
    have q1 : Q4 5 (unit p) := unit_q4 p (by omega)
    have q2 : Q4 5 (unit q) := unit_q4 q (by omega)
    have z3 : Q4 1000 (Rat.divInt 0 1) := (divInt_q4 0 1 (by omega) (by omega) (by omega)).mono (by omega)
    have m1 := times02_c (unit p) (unit p) (q1.mono (by omega)) (q1.mono (by omega))
    have m2 := times02_c (unit q) (unit q) (q2.mono (by omega)) (q2.mono (by omega))
    have z1 : Q4 1000 (unit p * unit p) := (q1.mul q1).mono (by omega)
    have z2 : Q4 1000 (unit q * unit q) := (q2.mul q2).mono (by omega)
    by_cases hm : p < 0 ∧ 0 < q
    · have t := tight3 (unit p * unit p) (unit q * unit q) (Rat.divInt 0 1)
      rw [loE_mul, loE_mul, hiE_mul, hiE_mul, loE_zero, hiE_zero, ← sqr_near hm.1 hm.2] at t
      rw [← t]
      clear t ir q1 q2
      generalize unit p * unit p = x1 at *
      generalize unit q * unit q = x2 at *
      generalize Rat.divInt 0 1 = x3 at *
      have bt := fun f h0 h => between_c x1 [x2, x3] (by simp) z1 (fun y hy => by simp only [List.mem_cons, List.not_mem_nil, or_false] at hy; rcases hy with rfl | rfl <;> assumption) f h0 h
      generalize tightR ([x2, x3].foldl lsr x1) ([x2, x3].foldl gtr x1) = r at *
      have bt := bt (fun k => List.take 4 (List.drop (0 + k * 4) (raL x1 ++ raL x2 ++ raL x3))) rfl (fun j hj => by
        simp only [List.length_cons, List.length_nil] at hj
        rcases (by omega : j = 0 ∨ j = 1) with e | e <;> subst e <;> rfl)
      refine called_of_run tbOk 6 ⟨Tryz.func15, rfl, rfl, Nat.le_of_ble_eq_true rfl⟩ ?_
      (conv => whnf)
      refine V.st ?_
      repeat ((try ((with_reducible refine .ext ?_); (conv => whnf))); (with_reducible refine call_intro (r := ?_) ?_ ?_); rotate_left; (focus (first | exact (r1))); (conv => whnf); refine V.st ?_)
      refine ⟨(.take 0 (.take 1 (.take 3 (.take 4 (.ev (.cons 2 [4, 3] (.ev (.cons 5 [] (.ev (.cons 6 [] (.ev (.cons 7 [] (.ev (.cons 8 [] (.ev (.cons 9 [] (.done) (.nil))) (.nil))) (.nil))) (.cons 7 [] (.ev (.cons 6 [] (.ev (.cons 8 [] (.ev (.cons 9 [] (.done) (.nil))) (.nil))) (.nil))) (.nil)))) (.cons 6 [4, 3] (.ev (.cons 5 [] (.ev (.cons 7 [] (.ev (.cons 8 [] (.ev (.cons 9 [] (.done) (.nil))) (.nil))) (.nil))) (.cons 7 [4, 3] (.ev (.cons 5 [] (.ev (.cons 8 [] (.ev (.cons 9 [] (.done) (.nil))) (.nil))) (.nil))) (.nil)))) (.cons 7 [4, 3] (.ev (.cons 5 [] (.ev (.cons 6 [] (.ev (.cons 8 [] (.ev (.cons 9 [] (.done) (.nil))) (.nil))) (.nil))) (.cons 6 [4, 3] (.ev (.cons 5 [] (.ev (.cons 8 [] (.ev (.cons 9 [] (.done) (.nil))) (.nil))) (.nil))) (.nil)))) (.nil))))) (.cons 6 [4, 3, 1, 0] (.ev (.cons 2 [4, 3] (.ev (.cons 5 [] (.ev (.cons 7 [] (.ev (.cons 8 [] (.ev (.cons 9 [] (.done) (.nil))) (.nil))) (.nil))) (.cons 7 [4, 3] (.ev (.cons 5 [] (.ev (.cons 8 [] (.ev (.cons 9 [] (.done) (.nil))) (.nil))) (.nil))) (.nil)))) (.cons 7 [4, 3, 1, 0] (.ev (.cons 2 [4, 3] (.ev (.cons 5 [] (.ev (.cons 8 [] (.ev (.cons 9 [] (.done) (.nil))) (.nil))) (.nil))) (.nil))) (.nil)))) (.cons 7 [4, 3, 1, 0] (.ev (.cons 2 [4, 3] (.ev (.cons 5 [] (.ev (.cons 6 [] (.ev (.cons 8 [] (.ev (.cons 9 [] (.done) (.nil))) (.nil))) (.nil))) (.cons 6 [4, 3] (.ev (.cons 5 [] (.ev (.cons 8 [] (.ev (.cons 9 [] (.done) (.nil))) (.nil))) (.nil))) (.nil)))) (.cons 6 [4, 3, 1, 0] (.ev (.cons 2 [4, 3] (.ev (.cons 5 [] (.ev (.cons 8 [] (.ev (.cons 9 [] (.done) (.nil))) (.nil))) (.nil))) (.nil))) (.nil)))) (.nil))))))))), ⟨by kernel_rfl, by kernel_rfl, by kernel_rfl⟩, ?_⟩
      refine drw_meet [(4, .box 4 0), (5, .box 5 0)] [(4, .box (raL (unit p))), (5, .box (raL (unit q)))] ?_ ?_
      · (conv => whnf); (try simp only [Nat.zero_add])
        repeat' (first | exact V.wk | (refine V.s1 ?_; (try simp only [Nat.zero_add])) | ((with_reducible refine recheck_and ?_ ?_); (focus ((conv => whnf); (try simp only [Nat.zero_add]); (repeat (refine V.s1 ?_; (try simp only [Nat.zero_add]))); exact ⟨rfl⟩)); (conv => whnf); (try simp only [Nat.zero_add])) | ((try ((with_reducible refine .ext ?_); (conv => whnf); (try simp only [Nat.zero_add]))); (with_reducible refine call_intro (r := ?_) ?_ ?_); rotate_left; (focus (first | exact (v1) | exact (v2))); (conv => whnf); (try simp only [Nat.zero_add])) | (refine And.intro ?_ ?_ <;> (conv => whnf); (try simp only [Nat.zero_add])))
      (conv => whnf)
      refine V.st ?_
      refine ⟨(.take 0 (.take 1 (.take 3 (.take 4 (.ev (.cons 2 [4, 3] (.ev (.cons 5 [] (.ev (.cons 6 [] (.take 7 (.done)) (.nil))) (.nil))) (.nil))))))), ⟨by kernel_rfl, by kernel_rfl, by kernel_rfl⟩, .go ?_⟩
      (conv => whnf)
      refine V.st ?_
      repeat ((try ((with_reducible refine .ext ?_); (conv => whnf))); (with_reducible refine call_intro (r := ?_) ?_ ?_); rotate_left; (focus (first | exact (m1) | exact (m2))); (conv => whnf); refine V.st ?_)
      refine Cnd.split (CondB.mk (fun g => ?_) (fun g => ?_))
      · (conv => whnf)
        refine V.st ?_
        repeat ((try ((with_reducible refine .ext ?_); (conv => whnf))); (with_reducible refine call_intro (r := ?_) ?_ ?_); rotate_left; (focus (first | exact (k1) | exact (bt))); (conv => whnf); refine V.st ?_)
        exact Fin.of rfl
      · simp at g
        omega
    · have t := tight2 (unit p * unit p) (unit q * unit q)
      rw [loE_mul, loE_mul, hiE_mul, hiE_mul, ← sqr_far b1.2.1 (by omega)] at t
      rw [← t]
      clear t ir q1 q2
      generalize unit p * unit p = x1 at *
      generalize unit q * unit q = x2 at *
      have bt := fun f h0 h => between_c x1 [x2] (by simp) z1 (fun y hy => by simp only [List.mem_cons, List.not_mem_nil, or_false] at hy; rcases hy with rfl; assumption) f h0 h
      generalize tightR ([x2].foldl lsr x1) ([x2].foldl gtr x1) = r at *
      have bt := bt (fun k => List.take 4 (List.drop (0 + k * 4) (raL x1 ++ raL x2))) rfl (fun j hj => by
        simp only [List.length_cons, List.length_nil] at hj
        obtain rfl : j = 0 := by omega
        rfl)
      refine called_of_run tbOk 6 ⟨Tryz.func15, rfl, rfl, Nat.le_of_ble_eq_true rfl⟩ ?_
      (conv => whnf)
      refine V.st ?_
      repeat ((try ((with_reducible refine .ext ?_); (conv => whnf))); (with_reducible refine call_intro (r := ?_) ?_ ?_); rotate_left; (focus (first | exact (r1))); (conv => whnf); refine V.st ?_)
      refine ⟨(.take 0 (.take 1 (.take 3 (.take 4 (.ev (.cons 2 [4, 3] (.ev (.cons 5 [] (.ev (.cons 6 [] (.ev (.cons 7 [] (.ev (.cons 8 [] (.ev (.cons 9 [] (.done) (.nil))) (.nil))) (.nil))) (.cons 7 [] (.ev (.cons 6 [] (.ev (.cons 8 [] (.ev (.cons 9 [] (.done) (.nil))) (.nil))) (.nil))) (.nil)))) (.cons 6 [4, 3] (.ev (.cons 5 [] (.ev (.cons 7 [] (.ev (.cons 8 [] (.ev (.cons 9 [] (.done) (.nil))) (.nil))) (.nil))) (.cons 7 [4, 3] (.ev (.cons 5 [] (.ev (.cons 8 [] (.ev (.cons 9 [] (.done) (.nil))) (.nil))) (.nil))) (.nil)))) (.cons 7 [4, 3] (.ev (.cons 5 [] (.ev (.cons 6 [] (.ev (.cons 8 [] (.ev (.cons 9 [] (.done) (.nil))) (.nil))) (.nil))) (.cons 6 [4, 3] (.ev (.cons 5 [] (.ev (.cons 8 [] (.ev (.cons 9 [] (.done) (.nil))) (.nil))) (.nil))) (.nil)))) (.nil))))) (.cons 6 [4, 3, 1, 0] (.ev (.cons 2 [4, 3] (.ev (.cons 5 [] (.ev (.cons 7 [] (.ev (.cons 8 [] (.ev (.cons 9 [] (.done) (.nil))) (.nil))) (.nil))) (.cons 7 [4, 3] (.ev (.cons 5 [] (.ev (.cons 8 [] (.ev (.cons 9 [] (.done) (.nil))) (.nil))) (.nil))) (.nil)))) (.cons 7 [4, 3, 1, 0] (.ev (.cons 2 [4, 3] (.ev (.cons 5 [] (.ev (.cons 8 [] (.ev (.cons 9 [] (.done) (.nil))) (.nil))) (.nil))) (.nil))) (.nil)))) (.cons 7 [4, 3, 1, 0] (.ev (.cons 2 [4, 3] (.ev (.cons 5 [] (.ev (.cons 6 [] (.ev (.cons 8 [] (.ev (.cons 9 [] (.done) (.nil))) (.nil))) (.nil))) (.cons 6 [4, 3] (.ev (.cons 5 [] (.ev (.cons 8 [] (.ev (.cons 9 [] (.done) (.nil))) (.nil))) (.nil))) (.nil)))) (.cons 6 [4, 3, 1, 0] (.ev (.cons 2 [4, 3] (.ev (.cons 5 [] (.ev (.cons 8 [] (.ev (.cons 9 [] (.done) (.nil))) (.nil))) (.nil))) (.nil))) (.nil)))) (.nil))))))))), ⟨by kernel_rfl, by kernel_rfl, by kernel_rfl⟩, ?_⟩
      refine drw_meet [(4, .box 4 0), (5, .box 5 0)] [(4, .box (raL (unit p))), (5, .box (raL (unit q)))] ?_ ?_
      · (conv => whnf); (try simp only [Nat.zero_add])
        repeat' (first | exact V.wk | (refine V.s1 ?_; (try simp only [Nat.zero_add])) | ((with_reducible refine recheck_and ?_ ?_); (focus ((conv => whnf); (try simp only [Nat.zero_add]); (repeat (refine V.s1 ?_; (try simp only [Nat.zero_add]))); exact ⟨rfl⟩)); (conv => whnf); (try simp only [Nat.zero_add])) | ((try ((with_reducible refine .ext ?_); (conv => whnf); (try simp only [Nat.zero_add]))); (with_reducible refine call_intro (r := ?_) ?_ ?_); rotate_left; (focus (first | exact (v1) | exact (v2))); (conv => whnf); (try simp only [Nat.zero_add])) | (refine And.intro ?_ ?_ <;> (conv => whnf); (try simp only [Nat.zero_add])))
      (conv => whnf)
      refine V.st ?_
      refine ⟨(.take 0 (.take 1 (.take 3 (.take 4 (.ev (.cons 2 [4, 3] (.ev (.cons 5 [] (.ev (.cons 6 [] (.take 7 (.done)) (.nil))) (.nil))) (.nil))))))), ⟨by kernel_rfl, by kernel_rfl, by kernel_rfl⟩, .go ?_⟩
      (conv => whnf)
      refine V.st ?_
      repeat ((try ((with_reducible refine .ext ?_); (conv => whnf))); (with_reducible refine call_intro (r := ?_) ?_ ?_); rotate_left; (focus (first | exact (m1) | exact (m2))); (conv => whnf); refine V.st ?_)
      refine Cnd.split (CondB.mk (fun g => ?_) (fun g => ?_))
      · simp at g
        omega
      · (conv => whnf)
        refine V.st ?_
        repeat ((try ((with_reducible refine .ext ?_); (conv => whnf))); (with_reducible refine call_intro (r := ?_) ?_ ?_); rotate_left; (focus (first | exact (bt))); (conv => whnf); refine V.st ?_)
        exact Fin.of rfl
  · rw [if_neg hv]
    rw [Bool.eq_false_iff.2 hv] at r1
    refine called_of_run tbOk 6 ⟨Tryz.func15, rfl, rfl, Nat.le_of_ble_eq_true rfl⟩ ?_
    (conv => whnf)
    refine V.st ?_
    repeat ((try ((with_reducible refine .ext ?_); (conv => whnf))); (with_reducible refine call_intro (r := ?_) ?_ ?_); rotate_left; (focus (first | exact (r1))); (conv => whnf); refine V.st ?_)
    exact Fin.of rfl
end Go.Proofs.YtplflfnfodghmaaGreatDoor
end
section
/-! law BandOnes -/
set_option linter.unusedSimpArgs false
set_option linter.unusedVariables false
set_option maxHeartbeats 8000000
set_option maxRecDepth 100000
namespace Go.Proofs.YtplflfnfodghmaaGreatDoor
open Go Go.V Go.Nb
/-- the program's function of a band and the reference's return the same -/
def Same1 (f g : Nat) (p q : Int) : Prop := ∃ r : Int × Int × Int, Called Tryz.prog f [bA p q] (bD r) ∧ Called Tryz.prog g [bA p q] (bD r)
def Same3 (f g : Nat) (p q n d : Int) : Prop := ∃ r : Int × Int × Int, Called Tryz.prog f [bA p q, .int .i64 n, .int .i64 d] (bD r) ∧ Called Tryz.prog g [bA p q, .int .i64 n, .int .i64 d] (bD r)
theorem same_neg (p q : Int) : Same1 10 13 p q := ⟨_, neg_b p q, neg_r p q⟩
theorem same_abs (p q : Int) : Same1 11 14 p q := ⟨_, abs_b p q, abs_r p q⟩
theorem same_sqr (p q : Int) : Same1 12 15 p q := ⟨_, sqr_b p q, sqr_r p q⟩
theorem same_scale (p q n d : Int) (hn : InR .i64 n) (hd : InR .i64 d) : Same3 16 17 p q n d := ⟨_, scale_b p q n d, scale_r p q n d hn hd⟩
theorem same_clamp (p q n d : Int) : Same3 18 19 p q n d := ⟨_, clamp_b p q n d, clamp_r p q n d⟩
theorem prs_eq (p q p2 q2 a w a2 w2 : Int) (k : Nat) (hk : k < 5) : ∃ x y x2 y2, prs p q p2 q2 a w a2 w2 k = [.int .i64 x, .int .i64 y, .int .i64 x2, .int .i64 y2] := by
  rcases (by omega : k = 0 ∨ k = 1 ∨ k = 2 ∨ k = 3 ∨ k = 4) with e | e | e | e | e <;> subst e <;> exact ⟨_, _, _, _, rfl⟩
theorem tmodM (n : Int) : -1000000000000 ≤ n.tmod 1000000000001 ∧ n.tmod 1000000000001 ≤ 1000000000000 := by
  have h1 := Int.tmod_lt_of_pos n (show (0 : Int) < 1000000000001 by decide)
  have h2 := Int.lt_tmod_of_pos n (show (0 : Int) < 1000000000001 by decide)
  omega
theorem bandOnes_c (p q p2 q2 a w a2 w2 n d : Int) (hw : 0 ≤ w ∧ w ≤ 4294967295) (hw2 : 0 ≤ w2 ∧ w2 ≤ 4294967295) (hn : InR .i64 n) (hd : InR .i64 d) : Called Tryz.prog 3 [.agg [.int .i64 p, .int .i64 q, .int .i64 p2, .int .i64 q2, .int .i64 a, .int .u32 w, .int .i64 a2, .int .u32 w2], .int .i64 n, .int .i64 d] (.bool true) := by
  have c0 := works_c
  have c1 := pairs_c p q p2 q2 a w a2 w2 hw hw2
  have hf := prs_eq p q p2 q2 a w a2 w2
  generalize prs p q p2 q2 a w a2 w2 = f at *
  refine called_of_run tbOk 6 ⟨Tryz.func3, rfl, rfl, Nat.le_of_ble_eq_true rfl⟩ ?_
  (conv => whnf)
  refine V.st ?_
  repeat ((try ((with_reducible refine .ext ?_); (conv => whnf))); (with_reducible refine call_intro (r := ?_) ?_ ?_); rotate_left; (focus (first | exact (c0) | exact (c1))); (conv => whnf); refine V.st ?_)
  refine lp_any (0 : Nat) (fun k => k ≤ 5) (fun k => 5 - k) (fun k => [(34, .int .i64 k)]) (fun _ => []) ?_ ?_ ?_
  · exact V.wk
  · exact Nat.zero_le _
  intro k hk
  have hkc : ((k : Int) + 1) = ((k + 1 : Nat) : Int) := by omega
  clear c0 c1
  (conv => whnf)
  refine V.st ?_
  refine Cnd.split (CondB.mk (fun hq => ?_) (fun hq => ?_))
  · rw [decide_eq_true_eq] at hq
    obtain ⟨x, y, x2, y2, hfk⟩ := hf k (by omega)
    clear hf
    (conv => whnf)
    (try simp only [Int.toNat_natCast, hfk, hkc])
    repeat (first | (refine V.s1 ?_; (try simp only [Int.toNat_natCast, hfk, hkc])) | ((with_reducible refine recheck_and ?_ ?_); (focus ((conv => whnf); (try simp only [Int.toNat_natCast, hfk, hkc]); (repeat (refine V.s1 ?_; (try simp only [Int.toNat_natCast, hfk, hkc]))); exact ⟨rfl⟩)); (conv => whnf); (try simp only [Int.toNat_natCast, hfk, hkc])))
    (conv => whnf)
    refine And.intro (fun _ => ⟨by omega, by omega⟩) ?_
    (conv => whnf)
    (try simp only [hkc])
    repeat (first | (refine V.s1 ?_; (try simp only [hkc])) | ((with_reducible refine recheck_and ?_ ?_); (focus ((conv => whnf); (try simp only [hkc]); (repeat (refine V.s1 ?_; (try simp only [hkc]))); exact ⟨rfl⟩)); (conv => whnf); (try simp only [hkc])))
    have S0 := same_neg x y
    have S1 := same_abs x y
    have S2 := same_sqr x y
    refine lp_any (0 : Nat) (fun j => j ≤ 3) (fun j => 3 - j) (fun j => [(39, .int .i64 j)]) (fun _ => []) ?_ ?_ ?_
    · exact V.wk
    · exact Nat.zero_le _
    intro j hj
    rcases (by omega : j = 0 ∨ j = 1 ∨ j = 2 ∨ j = 3) with e | e | e | e
    · subst e
      (conv => whnf)
      refine V.st ?_
      obtain ⟨r, k1, k2⟩ := S0
      (conv => whnf)
      refine V.st ?_
      repeat ((try ((with_reducible refine .ext ?_); (conv => whnf))); (with_reducible refine call_intro (r := ?_) ?_ ?_); rotate_left; (focus (first | exact (k1))); (conv => whnf); refine V.st ?_)
      refine ⟨(.take 0 (.take 1 (.take 2 (.take 3 (.take 4 (.ev (.cons 5 [] (.take 6 (.take 7 (.take 8 (.ev (.cons 9 [8, 7, 6] (.ev (.cons 10 [8] (.take 11 (.done)) (.nil))) (.nil)))))) (.cons 9 [4, 3, 2, 1, 0] (.ev (.cons 5 [] (.take 6 (.take 7 (.take 8 (.ev (.cons 10 [8] (.take 11 (.done)) (.nil)))))) (.nil))) (.nil))))))))), ⟨by kernel_rfl, by kernel_rfl, by kernel_rfl⟩, ?_⟩
      refine drw_meet [(13, .box 13 0), (14, .int .i64 r.2.2)] [(13, .box [.int .i64 r.1, .int .i64 r.2.1])] ?_ ?_
      · (conv => whnf); (try simp only [Nat.zero_add])
        repeat' (first | exact V.wk | (refine V.s1 ?_; (try simp only [Nat.zero_add])) | ((with_reducible refine recheck_and ?_ ?_); (focus ((conv => whnf); (try simp only [Nat.zero_add]); (repeat (refine V.s1 ?_; (try simp only [Nat.zero_add]))); exact ⟨rfl⟩)); (conv => whnf); (try simp only [Nat.zero_add])) | ((try ((with_reducible refine .ext ?_); (conv => whnf); (try simp only [Nat.zero_add]))); (with_reducible refine call_intro (r := ?_) ?_ ?_); rotate_left; (focus (first | exact (k2))); (conv => whnf); (try simp only [Nat.zero_add])) | (refine And.intro ?_ ?_ <;> (conv => whnf); (try simp only [Nat.zero_add])))
      (conv => whnf)
      refine V.st ?_
      refine Cnd.split (CondB.mk (fun g => ?_) (fun g => ?_))
      · simp at g
      · (conv => whnf)
        refine V.st ?_
        exact ⟨1, by omega, by omega, V.wk⟩
    · subst e
      (conv => whnf)
      refine V.st ?_
      obtain ⟨r, k1, k2⟩ := S1
      (conv => whnf)
      refine V.st ?_
      repeat ((try ((with_reducible refine .ext ?_); (conv => whnf))); (with_reducible refine call_intro (r := ?_) ?_ ?_); rotate_left; (focus (first | exact (k1))); (conv => whnf); refine V.st ?_)
      refine ⟨(.take 0 (.take 1 (.take 2 (.take 3 (.take 4 (.ev (.cons 5 [] (.take 6 (.take 7 (.take 8 (.ev (.cons 9 [8, 7, 6] (.ev (.cons 10 [8] (.take 11 (.done)) (.nil))) (.nil)))))) (.cons 9 [4, 3, 2, 1, 0] (.ev (.cons 5 [] (.take 6 (.take 7 (.take 8 (.ev (.cons 10 [8] (.take 11 (.done)) (.nil)))))) (.nil))) (.nil))))))))), ⟨by kernel_rfl, by kernel_rfl, by kernel_rfl⟩, ?_⟩
      refine drw_meet [(13, .box 13 0), (14, .int .i64 r.2.2)] [(13, .box [.int .i64 r.1, .int .i64 r.2.1])] ?_ ?_
      · (conv => whnf); (try simp only [Nat.zero_add])
        repeat' (first | exact V.wk | (refine V.s1 ?_; (try simp only [Nat.zero_add])) | ((with_reducible refine recheck_and ?_ ?_); (focus ((conv => whnf); (try simp only [Nat.zero_add]); (repeat (refine V.s1 ?_; (try simp only [Nat.zero_add]))); exact ⟨rfl⟩)); (conv => whnf); (try simp only [Nat.zero_add])) | ((try ((with_reducible refine .ext ?_); (conv => whnf); (try simp only [Nat.zero_add]))); (with_reducible refine call_intro (r := ?_) ?_ ?_); rotate_left; (focus (first | exact (k2))); (conv => whnf); (try simp only [Nat.zero_add])) | (refine And.intro ?_ ?_ <;> (conv => whnf); (try simp only [Nat.zero_add])))
      (conv => whnf)
      refine V.st ?_
      refine Cnd.split (CondB.mk (fun g => ?_) (fun g => ?_))
      · simp at g
      · (conv => whnf)
        refine V.st ?_
        exact ⟨2, by omega, by omega, V.wk⟩
    · subst e
      (conv => whnf)
      refine V.st ?_
      obtain ⟨r, k1, k2⟩ := S2
      (conv => whnf)
      refine V.st ?_
      repeat ((try ((with_reducible refine .ext ?_); (conv => whnf))); (with_reducible refine call_intro (r := ?_) ?_ ?_); rotate_left; (focus (first | exact (k1))); (conv => whnf); refine V.st ?_)
      refine ⟨(.take 0 (.take 1 (.take 2 (.take 3 (.take 4 (.ev (.cons 5 [] (.take 6 (.take 7 (.take 8 (.ev (.cons 9 [8, 7, 6] (.ev (.cons 10 [8] (.take 11 (.done)) (.nil))) (.nil)))))) (.cons 9 [4, 3, 2, 1, 0] (.ev (.cons 5 [] (.take 6 (.take 7 (.take 8 (.ev (.cons 10 [8] (.take 11 (.done)) (.nil)))))) (.nil))) (.nil))))))))), ⟨by kernel_rfl, by kernel_rfl, by kernel_rfl⟩, ?_⟩
      refine drw_meet [(13, .box 13 0), (14, .int .i64 r.2.2)] [(13, .box [.int .i64 r.1, .int .i64 r.2.1])] ?_ ?_
      · (conv => whnf); (try simp only [Nat.zero_add])
        repeat' (first | exact V.wk | (refine V.s1 ?_; (try simp only [Nat.zero_add])) | ((with_reducible refine recheck_and ?_ ?_); (focus ((conv => whnf); (try simp only [Nat.zero_add]); (repeat (refine V.s1 ?_; (try simp only [Nat.zero_add]))); exact ⟨rfl⟩)); (conv => whnf); (try simp only [Nat.zero_add])) | ((try ((with_reducible refine .ext ?_); (conv => whnf); (try simp only [Nat.zero_add]))); (with_reducible refine call_intro (r := ?_) ?_ ?_); rotate_left; (focus (first | exact (k2))); (conv => whnf); (try simp only [Nat.zero_add])) | (refine And.intro ?_ ?_ <;> (conv => whnf); (try simp only [Nat.zero_add])))
      (conv => whnf)
      refine V.st ?_
      refine Cnd.split (CondB.mk (fun g => ?_) (fun g => ?_))
      · simp at g
      · (conv => whnf)
        refine V.st ?_
        exact ⟨3, by omega, by omega, V.wk⟩
    · subst e
      (conv => whnf)
      refine V.st ?_
      refine Or.inr ?_
      (conv => whnf)
      refine V.st ?_
      have nb := tmodM n
      have ub : 0 ≤ IntKind.u64.wrap d % 1000000000000 ∧ IntKind.u64.wrap d % 1000000000000 < 1000000000000 := ⟨Int.emod_nonneg _ (by decide), Int.emod_lt_of_pos _ (by decide)⟩
      have Z0 := same_scale x y n d hn hd
      have C0 := same_clamp x y n d
      have Z1 := same_scale x y (n.tmod 1000000000001) (1 + IntKind.u64.wrap d % 1000000000000) (by simp only [InR, V.lo, V.hi]; omega) (by simp only [InR, V.lo, V.hi]; omega)
      have C1 := same_clamp x y (n.tmod 1000000000001) (1 + IntKind.u64.wrap d % 1000000000000)
      have C2 := same_clamp x y x2 y2
      generalize n.tmod 1000000000001 = n2 at *
      generalize 1 + IntKind.u64.wrap d % 1000000000000 = d2 at *
      obtain ⟨s0, z1, z2⟩ := Z0
      obtain ⟨s1, z3, z4⟩ := Z1
      obtain ⟨c0, e1, e2⟩ := C0
      obtain ⟨c1, e3, e4⟩ := C1
      obtain ⟨c2, e5, e6⟩ := C2
      refine lp_any (0 : Nat) (fun i => i ≤ 2) (fun i => 2 - i) (fun i => [(80, .int .i64 i)]) (fun _ => []) ?_ ?_ ?_
      · exact V.wk
      · exact Nat.zero_le _
      intro i hi
      rcases (by omega : i = 0 ∨ i = 1 ∨ i = 2) with e | e | e
      · subst e
        (conv => whnf)
        refine V.st ?_
        repeat ((try ((with_reducible refine .ext ?_); (conv => whnf))); (with_reducible refine call_intro (r := ?_) ?_ ?_); rotate_left; (focus (first | exact (z1) | exact (z2) | exact (e1) | exact (e2) | exact (e5) | exact (e6))); (conv => whnf); refine V.st ?_)
        refine Cnd.split (CondB.mk (fun g => ?_) (fun g => ?_))
        · simp at g
        · (conv => whnf)
          refine V.st ?_
          exact ⟨1, by omega, by omega, V.wk⟩
      · subst e
        (conv => whnf)
        refine V.st ?_
        repeat ((try ((with_reducible refine .ext ?_); (conv => whnf))); (with_reducible refine call_intro (r := ?_) ?_ ?_); rotate_left; (focus (first | exact (z3) | exact (z4) | exact (e3) | exact (e4) | exact (e5) | exact (e6))); (conv => whnf); refine V.st ?_)
        refine Cnd.split (CondB.mk (fun g => ?_) (fun g => ?_))
        · simp at g
        · (conv => whnf)
          refine V.st ?_
          exact ⟨2, by omega, by omega, V.wk⟩
      · subst e
        (conv => whnf)
        (try simp only [hkc])
        repeat (first | (refine V.s1 ?_; (try simp only [hkc])) | ((with_reducible refine recheck_and ?_ ?_); (focus ((conv => whnf); (try simp only [hkc]); (repeat (refine V.s1 ?_; (try simp only [hkc]))); exact ⟨rfl⟩)); (conv => whnf); (try simp only [hkc])))
        exact ⟨k + 1, by omega, by omega, V.wk⟩
  · (conv => whnf)
    refine V.st ?_
    exact Fin.of rfl
end Go.Proofs.YtplflfnfodghmaaGreatDoor
end
