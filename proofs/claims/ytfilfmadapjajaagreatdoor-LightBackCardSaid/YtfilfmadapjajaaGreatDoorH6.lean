/- What some functions of the program answer at values that mean given lists, texts and numbers, each proved of the program's own code: part 6. Conditions: those that each theorem names. -/
import Derived.Test.YtfilfmadapjajaaGreatDoorH5
import Derived.Test.YtfilfmadapjajaaGreatDoorH4
set_option linter.unusedSimpArgs false
set_option linter.unusedVariables false
set_option maxHeartbeats 8000000
set_option maxRecDepth 100000
section
namespace Go.Proofs.YtfilfmadapjajaaGreatDoor
open Go Go.V Go.Nb
theorem daycl_a (k : Int) (hk : k ≤ 7000) (t u w0 x0 w1 x1 w2 x2 w3 x3 y0 z0 y1 z1 y2 z2 x1' x2' y1' y2' : List UInt8)
    (rt : Called Tryz.prog 51 [.int .i64 1, .int .i64 k] (.agg [.str t, .str u]))
    (r0 : Called Tryz.prog 51 [.int .i64 (-4607000000), .int .i64 1] (.agg [.str w0, .str x0])) (r1 : Called Tryz.prog 51 [.int .i64 2967800, .int .i64 1] (.agg [.str w1, .str x1])) (r2 : Called Tryz.prog 51 [.int .i64 9911, .int .i64 100] (.agg [.str w2, .str x2])) (r3 : Called Tryz.prog 51 [.int .i64 244063, .int .i64 1000000] (.agg [.str w3, .str x3]))
    (p4 : Called Tryz.prog 65 [.agg [.str t, .str u], .slf 2 4 (fun j => List.take 2 (List.drop (j * 2) [.str w0, .str x0, .str w1, .str x1, .str w2, .str x2, .str w3, .str x3]))] (.agg [.str x1', .str x2']))
    (r4 : Called Tryz.prog 51 [.int .i64 (-3), .int .i64 1] (.agg [.str y0, .str z0])) (r5 : Called Tryz.prog 51 [.int .i64 287, .int .i64 100] (.agg [.str y1, .str z1])) (r6 : Called Tryz.prog 51 [.int .i64 (-275), .int .i64 1000] (.agg [.str y2, .str z2]))
    (p3 : Called Tryz.prog 65 [.agg [.str x1', .str x2'], .slf 2 3 (fun j => List.take 2 (List.drop (j * 2) [.str y0, .str z0, .str y1, .str z1, .str y2, .str z2]))] (.agg [.str y1', .str y2'])) :
    Called Tryz.prog 64 [.ref [.int .i64 k]] (.agg [.str x1', .str x2', .str y1', .str y2']) := by
  refine called_of_run tbOk 6 ⟨Tryz.func64, rfl, rfl, Nat.le_of_ble_eq_true rfl⟩ ?_
  (conv => whnf)
  (conv => whnf)
  (try simp only [Nat.zero_add])
  repeat ((first | refine V.s1 ?_ | ((try ((with_reducible refine .ext ?_); (conv => whnf); (try simp only [Nat.zero_add]))); (with_reducible refine call_intro (r := ?_) ?_ ?_); rotate_left; (focus (first | exact (rt))); (conv => whnf))); (try simp only [Nat.zero_add]))
  refine Cnd.split (CondB.mk (fun hq => ?_) (fun hq => ?_))
  · (conv => whnf)
    (try simp only [Nat.zero_add])
    repeat ((first | refine V.s1 ?_); (try simp only [Nat.zero_add]))
    refine ⟨(.take 0 (.ev (.cons 1 [0] (.ev (.cons 2 [0] (.ev (.cons 3 [0] (.ev (.cons 4 [0] (.ev (.cons 5 [0] (.ev (.cons 6 [] (.ev (.cons 7 [] (.done) (.nil))) (.nil))) (.nil))) (.nil))) (.nil))) (.nil))) (.nil)))), [], ⟨by kernel_rfl, by kernel_rfl, by kernel_rfl, by kernel_rfl⟩, ?_⟩
    refine drw_meet [(13, .slf 2 4 (fun j => List.take 2 (List.drop (j * 2) [.str w0, .str x0, .str w1, .str x1, .str w2, .str x2, .str w3, .str x3])))] [(3, .box [.str x1', .str x2']), (13, .gone)] ?_ ?_
    · (conv => whnf); (try simp only [Nat.zero_add])
      repeat' (first | exact V.wk | ((first | refine V.s1 ?_ | ((with_reducible refine recheck_and ?_ ?_); (focus ((conv => whnf); (try simp only [Nat.zero_add]); (repeat (refine V.s1 ?_; (try simp only [Nat.zero_add]))); exact ⟨rfl⟩)); (conv => whnf)) | ((try ((with_reducible refine .ext ?_); (conv => whnf); (try simp only [Nat.zero_add]))); (with_reducible refine call_intro (r := ?_) ?_ ?_); rotate_left; (focus (first | exact (r0) | exact (r1) | exact (r2) | exact (r3) | exact (p4))); (conv => whnf))); (try simp only [Nat.zero_add])) | (refine And.intro ?_ ?_ <;> (conv => whnf); (try simp only [Nat.zero_add])))
    (conv => whnf)
    (try simp only [Nat.zero_add])
    repeat ((first | refine V.s1 ?_); (try simp only [Nat.zero_add]))
    refine ⟨(.take 0 (.take 1 (.ev (.cons 2 [1, 0] (.ev (.cons 3 [1, 0] (.ev (.cons 4 [1, 0] (.ev (.cons 5 [1, 0] (.ev (.cons 6 [0] (.take 7 (.ev (.cons 8 [] (.done) (.nil)))) (.nil))) (.nil))) (.nil))) (.nil))) (.nil))))), [], ⟨by kernel_rfl, by kernel_rfl, by kernel_rfl, by kernel_rfl⟩, ?_⟩
    refine drw_meet [(27, .slf 2 3 (fun j => List.take 2 (List.drop (j * 2) [.str y0, .str z0, .str y1, .str z1, .str y2, .str z2])))] [(1, .box [.str x1', .str x2', .str y1', .str y2']), (27, .gone)] ?_ ?_
    · (conv => whnf); (try simp only [Nat.zero_add])
      repeat' (first | exact V.wk | ((first | refine V.s1 ?_ | ((with_reducible refine recheck_and ?_ ?_); (focus ((conv => whnf); (try simp only [Nat.zero_add]); (repeat (refine V.s1 ?_; (try simp only [Nat.zero_add]))); exact ⟨rfl⟩)); (conv => whnf)) | ((try ((with_reducible refine .ext ?_); (conv => whnf); (try simp only [Nat.zero_add]))); (with_reducible refine call_intro (r := ?_) ?_ ?_); rotate_left; (focus (first | exact (r4) | exact (r5) | exact (r6) | exact (p3))); (conv => whnf))); (try simp only [Nat.zero_add])) | (refine And.intro ?_ ?_ <;> (conv => whnf); (try simp only [Nat.zero_add])))
    (conv => whnf)
    (try simp only [Nat.zero_add])
    repeat ((first | refine V.s1 ?_); (try simp only [Nat.zero_add]))
    exact Fin.of rfl
  · exfalso
    simp at hq
    omega
theorem daycl_b (k : Int) (hk : 7000 < k) (t u w0 x0 w1 x1 w2 x2 w3 x3 y0 z0 y1 z1 y2 z2 x1' x2' y1' y2' : List UInt8)
    (rt : Called Tryz.prog 51 [.int .i64 1, .int .i64 k] (.agg [.str t, .str u]))
    (r0 : Called Tryz.prog 51 [.int .i64 (-2006400000), .int .i64 1] (.agg [.str w0, .str x0])) (r1 : Called Tryz.prog 51 [.int .i64 1901800, .int .i64 1] (.agg [.str w1, .str x1])) (r2 : Called Tryz.prog 51 [.int .i64 24748, .int .i64 100] (.agg [.str w2, .str x2])) (r3 : Called Tryz.prog 51 [.int .i64 23704, .int .i64 100000] (.agg [.str w3, .str x3]))
    (p4 : Called Tryz.prog 65 [.agg [.str t, .str u], .slf 2 4 (fun j => List.take 2 (List.drop (j * 2) [.str w0, .str x0, .str w1, .str x1, .str w2, .str x2, .str w3, .str x3]))] (.agg [.str x1', .str x2']))
    (r4 : Called Tryz.prog 51 [.int .i64 (-3), .int .i64 1] (.agg [.str y0, .str z0])) (r5 : Called Tryz.prog 51 [.int .i64 287, .int .i64 100] (.agg [.str y1, .str z1])) (r6 : Called Tryz.prog 51 [.int .i64 (-275), .int .i64 1000] (.agg [.str y2, .str z2]))
    (p3 : Called Tryz.prog 65 [.agg [.str x1', .str x2'], .slf 2 3 (fun j => List.take 2 (List.drop (j * 2) [.str y0, .str z0, .str y1, .str z1, .str y2, .str z2]))] (.agg [.str y1', .str y2'])) :
    Called Tryz.prog 64 [.ref [.int .i64 k]] (.agg [.str x1', .str x2', .str y1', .str y2']) := by
  refine called_of_run tbOk 6 ⟨Tryz.func64, rfl, rfl, Nat.le_of_ble_eq_true rfl⟩ ?_
  (conv => whnf)
  (conv => whnf)
  (try simp only [Nat.zero_add])
  repeat ((first | refine V.s1 ?_ | ((try ((with_reducible refine .ext ?_); (conv => whnf); (try simp only [Nat.zero_add]))); (with_reducible refine call_intro (r := ?_) ?_ ?_); rotate_left; (focus (first | exact (rt))); (conv => whnf))); (try simp only [Nat.zero_add]))
  refine Cnd.split (CondB.mk (fun hq => ?_) (fun hq => ?_))
  · exfalso
    simp at hq
    omega
  · (conv => whnf)
    (try simp only [Nat.zero_add])
    repeat ((first | refine V.s1 ?_); (try simp only [Nat.zero_add]))
    refine ⟨(.take 0 (.ev (.cons 1 [0] (.ev (.cons 2 [0] (.ev (.cons 3 [0] (.ev (.cons 4 [0] (.ev (.cons 5 [0] (.ev (.cons 6 [] (.ev (.cons 7 [] (.done) (.nil))) (.nil))) (.nil))) (.nil))) (.nil))) (.nil))) (.nil)))), [], ⟨by kernel_rfl, by kernel_rfl, by kernel_rfl, by kernel_rfl⟩, ?_⟩
    refine drw_meet [(20, .slf 2 4 (fun j => List.take 2 (List.drop (j * 2) [.str w0, .str x0, .str w1, .str x1, .str w2, .str x2, .str w3, .str x3])))] [(3, .box [.str x1', .str x2']), (20, .gone)] ?_ ?_
    · (conv => whnf); (try simp only [Nat.zero_add])
      repeat' (first | exact V.wk | ((first | refine V.s1 ?_ | ((with_reducible refine recheck_and ?_ ?_); (focus ((conv => whnf); (try simp only [Nat.zero_add]); (repeat (refine V.s1 ?_; (try simp only [Nat.zero_add]))); exact ⟨rfl⟩)); (conv => whnf)) | ((try ((with_reducible refine .ext ?_); (conv => whnf); (try simp only [Nat.zero_add]))); (with_reducible refine call_intro (r := ?_) ?_ ?_); rotate_left; (focus (first | exact (r0) | exact (r1) | exact (r2) | exact (r3) | exact (p4))); (conv => whnf))); (try simp only [Nat.zero_add])) | (refine And.intro ?_ ?_ <;> (conv => whnf); (try simp only [Nat.zero_add])))
    (conv => whnf)
    (try simp only [Nat.zero_add])
    repeat ((first | refine V.s1 ?_); (try simp only [Nat.zero_add]))
    refine ⟨(.take 0 (.take 1 (.ev (.cons 2 [1, 0] (.ev (.cons 3 [1, 0] (.ev (.cons 4 [1, 0] (.ev (.cons 5 [1, 0] (.ev (.cons 6 [0] (.take 7 (.ev (.cons 8 [] (.done) (.nil)))) (.nil))) (.nil))) (.nil))) (.nil))) (.nil))))), [], ⟨by kernel_rfl, by kernel_rfl, by kernel_rfl, by kernel_rfl⟩, ?_⟩
    refine drw_meet [(27, .slf 2 3 (fun j => List.take 2 (List.drop (j * 2) [.str y0, .str z0, .str y1, .str z1, .str y2, .str z2])))] [(1, .box [.str x1', .str x2', .str y1', .str y2']), (27, .gone)] ?_ ?_
    · (conv => whnf); (try simp only [Nat.zero_add])
      repeat' (first | exact V.wk | ((first | refine V.s1 ?_ | ((with_reducible refine recheck_and ?_ ?_); (focus ((conv => whnf); (try simp only [Nat.zero_add]); (repeat (refine V.s1 ?_; (try simp only [Nat.zero_add]))); exact ⟨rfl⟩)); (conv => whnf)) | ((try ((with_reducible refine .ext ?_); (conv => whnf); (try simp only [Nat.zero_add]))); (with_reducible refine call_intro (r := ?_) ?_ ?_); rotate_left; (focus (first | exact (r4) | exact (r5) | exact (r6) | exact (p3))); (conv => whnf))); (try simp only [Nat.zero_add])) | (refine And.intro ?_ ?_ <;> (conv => whnf); (try simp only [Nat.zero_add])))
    (conv => whnf)
    (try simp only [Nat.zero_add])
    repeat ((first | refine V.s1 ?_); (try simp only [Nat.zero_add]))
    exact Fin.of rfl
theorem lday_no (k : Int) (h : k < 4000 ∨ 25000 < k) : Called Tryz.prog 29 [.int .i64 k] (.tup [.agg [.str [], .str []], .agg [.str [], .str []], .int .i64 2]) := by
  refine called_of_run tbOk 6 ⟨Tryz.func29, rfl, rfl, Nat.le_of_ble_eq_true rfl⟩ ?_
  (conv => whnf)
  (conv => whnf)
  (try simp only [Nat.zero_add])
  repeat ((first | refine V.s1 ?_); (try simp only [Nat.zero_add]))
  refine Cnd.split (CondB.mk (fun hq => ?_) (fun hq => ?_))
  · (conv => whnf)
    (try simp only [Nat.zero_add])
    repeat ((first | refine V.s1 ?_); (try simp only [Nat.zero_add]))
    exact Fin.of rfl
  · exfalso
    simp at hq
    omega
theorem lday_go (k : Int) (h : 4000 ≤ k ∧ k ≤ 25000) (a b c d : List UInt8) (e : Int) (g : Called Tryz.prog 63 [.fn 64 [] [.ref [.int .i64 k]]] (.tup [.agg [.str a, .str b, .str c, .str d], .int .i64 e])) :
    Called Tryz.prog 29 [.int .i64 k] (.tup [.agg [.str a, .str b], .agg [.str c, .str d], .int .i64 e]) := by
  refine called_of_run tbOk 6 ⟨Tryz.func29, rfl, rfl, Nat.le_of_ble_eq_true rfl⟩ ?_
  (conv => whnf)
  (conv => whnf)
  (try simp only [Nat.zero_add])
  repeat ((first | refine V.s1 ?_); (try simp only [Nat.zero_add]))
  refine Cnd.split (CondB.mk (fun hq => ?_) (fun hq => ?_))
  · exfalso
    simp at hq
    omega
  · (conv => whnf)
    (try simp only [Nat.zero_add])
    repeat ((first | refine V.s1 ?_ | ((try ((with_reducible refine .ext ?_); (conv => whnf); (try simp only [Nat.zero_add]))); (with_reducible refine call_intro (r := ?_) ?_ ?_); rotate_left; (focus (first | exact (g))); (conv => whnf))); (try simp only [Nat.zero_add]))
    refine ⟨(.take 0 (.take 1 (.take 2 (.take 3 (.take 4 (.ev (.cons 5 [4, 3, 2] (.ev (.cons 6 [4] (.ev (.cons 7 [] (.done) (.nil))) (.nil))) (.nil)))))))), [], ⟨by kernel_rfl, by kernel_rfl, by kernel_rfl, by kernel_rfl⟩, ?_⟩
    refine drw_meet [(4, .int .i64 e)] [(2, .box [.str a, .str b]), (3, .box [.str c, .str d])] ?_ ?_
    · (conv => whnf); (try simp only [Nat.zero_add, tn0, tn1, tn2])
      repeat' (first | exact V.wk | ((first | refine V.s1 ?_ | ((with_reducible refine recheck_and ?_ ?_); (focus ((conv => whnf); (try simp only [Nat.zero_add, tn0, tn1, tn2]); (repeat (refine V.s1 ?_; (try simp only [Nat.zero_add, tn0, tn1, tn2]))); exact ⟨rfl⟩)); (conv => whnf))); (try simp only [Nat.zero_add, tn0, tn1, tn2])) | (refine And.intro ?_ ?_ <;> (conv => whnf); (try simp only [Nat.zero_add, tn0, tn1, tn2])))
    (conv => whnf)
    (try simp only [Nat.zero_add])
    repeat ((first | refine V.s1 ?_); (try simp only [Nat.zero_add]))
    exact Fin.of rfl
end Go.Proofs.YtfilfmadapjajaaGreatDoor
end
section
namespace Go.Proofs.YtfilfmadapjajaaGreatDoor
open Go Go.V Go.Nb
def fst2 (e0 e1 : Int) : Int := if e0 ≠ 0 then e0 else e1
theorem zZ27_0 : type_of% @Nat.zero_add ∧ type_of% @tn0 ∧ type_of% @tn1 ∧ type_of% @tn2 := ⟨@Nat.zero_add, @tn0, @tn1, @tn2⟩
theorem fractions2 (a0 b0 a1 b1 : List UInt8) (e0 e1 : Int) (c0 : Called Tryz.prog 81 [.agg [.str a0, .str b0]] (.int .i64 e0)) (c1 : Called Tryz.prog 81 [.agg [.str a1, .str b1]] (.int .i64 e1)) :
    Called Tryz.prog 43 [.slf 2 2 (fun j => List.take 2 (List.drop (j * 2) [.str a0, .str b0, .str a1, .str b1]))] (.int .i64 (fst2 e0 e1)) := by
  obtain ⟨R, hR0⟩ : ∃ R, fst2 e0 e1 = R := ⟨_, rfl⟩
  rw [hR0]
  unfold fst2 at hR0
  refine called_of_run tbOk 6 ⟨Tryz.func43, rfl, rfl, Nat.le_of_ble_eq_true rfl⟩ ?_
  (conv => whnf)
  (conv => whnf)
  (try simp only [Nat.zero_add])
  repeat ((first | refine V.s1 ?_); (try simp only [Nat.zero_add]))
  refine lp_any (0) (fun k => k ≤ 2 ∧ (0 < k → e0 = 0) ∧ (1 < k → e1 = 0)) (fun k => 2 - k) (fun k => [(8, .int .i64 k)]) (fun k => []) ?_ ?_ ?_
  · exact V.wk
  · exact ⟨Nat.zero_le _, by omega, by omega⟩
  intro k hk
  obtain ⟨hk, z0, z1⟩ := hk
  have hk4 : k = 0 ∨ k = 1 ∨ k = 2 := by omega
  rcases hk4 with e | e | e
  all_goals subst e
  · simp only [k0]
    (conv => whnf)
    (try simp only [zZ27_0])
    repeat ((first | refine V.s1 ?_ | ((try ((with_reducible refine .ext ?_); (conv => whnf); (try simp only [zZ27_0]))); (with_reducible refine call_intro (r := ?_) ?_ ?_); rotate_left; (focus (first | exact (c0))); (conv => whnf))); (try simp only [zZ27_0]))
    refine Cnd.split (CondB.mk (fun hq => ?_) (fun hq => ?_))
    · have hR : R = e0 := by
        rw [← hR0]
        simp at hq
        simp [hq]
      rw [hR]
      (conv => whnf)
      (try simp only [Nat.zero_add])
      repeat ((first | refine V.s1 ?_); (try simp only [Nat.zero_add]))
      exact Fin.of rfl
    (conv => whnf)
    (try simp only [Nat.zero_add])
    repeat ((first | refine V.s1 ?_); (try simp only [Nat.zero_add]))
    simp at hq
    exact ⟨1, ⟨by omega, by omega, by omega⟩, by omega, V.wk⟩
  · simp only [k1]
    have y0 := z0 (by omega)
    (conv => whnf)
    (try simp only [zZ27_0])
    repeat ((first | refine V.s1 ?_ | ((try ((with_reducible refine .ext ?_); (conv => whnf); (try simp only [zZ27_0]))); (with_reducible refine call_intro (r := ?_) ?_ ?_); rotate_left; (focus (first | exact (c1))); (conv => whnf))); (try simp only [zZ27_0]))
    refine Cnd.split (CondB.mk (fun hq => ?_) (fun hq => ?_))
    · have hR : R = e1 := by
        rw [← hR0]
        simp [y0]
      rw [hR]
      (conv => whnf)
      (try simp only [Nat.zero_add])
      repeat ((first | refine V.s1 ?_); (try simp only [Nat.zero_add]))
      exact Fin.of rfl
    (conv => whnf)
    (try simp only [Nat.zero_add])
    repeat ((first | refine V.s1 ?_); (try simp only [Nat.zero_add]))
    simp at hq
    exact ⟨2, ⟨by omega, by omega, by omega⟩, by omega, V.wk⟩
  · simp only [k2]
    have y0 := z0 (by omega)
    have y1 := z1 (by omega)
    have hR : R = 0 := by
      rw [← hR0]
      simp [y0, y1]
    rw [hR]
    (conv => whnf)
    (try simp only [Nat.zero_add])
    repeat ((first | refine V.s1 ?_); (try simp only [Nat.zero_add]))
    exact Fin.of rfl
theorem rfracs1 (a0 b0 : List UInt8) (e0 : Int) (c0 : Called Tryz.prog 85 [.agg [.str a0, .str b0]] (.int .i64 e0)) :
    Called Tryz.prog 46 [.slf 2 1 (fun j => List.take 2 (List.drop (j * 2) [.str a0, .str b0]))] (.int .i64 (e0)) := by
  obtain ⟨R, hR0⟩ : ∃ R, e0 = R := ⟨_, rfl⟩
  rw [hR0]
  refine called_of_run tbOk 6 ⟨Tryz.func46, rfl, rfl, Nat.le_of_ble_eq_true rfl⟩ ?_
  (conv => whnf)
  (conv => whnf)
  (try simp only [Nat.zero_add])
  repeat ((first | refine V.s1 ?_); (try simp only [Nat.zero_add]))
  refine lp_any (0) (fun k => k ≤ 1 ∧ (0 < k → e0 = 0)) (fun k => 1 - k) (fun k => [(3, .int .i64 k)]) (fun k => []) ?_ ?_ ?_
  · exact V.wk
  · exact ⟨Nat.zero_le _, by omega⟩
  intro k hk
  obtain ⟨hk, z0⟩ := hk
  have hk4 : k = 0 ∨ k = 1 := by omega
  rcases hk4 with e | e
  all_goals subst e
  · simp only [k0]
    (conv => whnf)
    (try simp only [zZ27_0])
    repeat ((first | refine V.s1 ?_ | ((try ((with_reducible refine .ext ?_); (conv => whnf); (try simp only [zZ27_0]))); (with_reducible refine call_intro (r := ?_) ?_ ?_); rotate_left; (focus (first | exact (c0))); (conv => whnf))); (try simp only [zZ27_0]))
    refine Cnd.split (CondB.mk (fun hq => ?_) (fun hq => ?_))
    · have hR : R = e0 := by
        rw [← hR0]
        skip
      rw [hR]
      (conv => whnf)
      (try simp only [Nat.zero_add])
      repeat ((first | refine V.s1 ?_); (try simp only [Nat.zero_add]))
      exact Fin.of rfl
    (conv => whnf)
    (try simp only [Nat.zero_add])
    repeat ((first | refine V.s1 ?_); (try simp only [Nat.zero_add]))
    simp at hq
    exact ⟨1, ⟨by omega, by omega⟩, by omega, V.wk⟩
  · simp only [k1]
    have y0 := z0 (by omega)
    have hR : R = 0 := by
      rw [← hR0]
      simp [y0]
    rw [hR]
    (conv => whnf)
    (try simp only [Nat.zero_add])
    repeat ((first | refine V.s1 ?_); (try simp only [Nat.zero_add]))
    exact Fin.of rfl
theorem rfracs2 (a0 b0 a1 b1 : List UInt8) (e0 e1 : Int) (c0 : Called Tryz.prog 85 [.agg [.str a0, .str b0]] (.int .i64 e0)) (c1 : Called Tryz.prog 85 [.agg [.str a1, .str b1]] (.int .i64 e1)) :
    Called Tryz.prog 46 [.slf 2 2 (fun j => List.take 2 (List.drop (j * 2) [.str a0, .str b0, .str a1, .str b1]))] (.int .i64 (fst2 e0 e1)) := by
  obtain ⟨R, hR0⟩ : ∃ R, fst2 e0 e1 = R := ⟨_, rfl⟩
  rw [hR0]
  unfold fst2 at hR0
  refine called_of_run tbOk 6 ⟨Tryz.func46, rfl, rfl, Nat.le_of_ble_eq_true rfl⟩ ?_
  (conv => whnf)
  (conv => whnf)
  (try simp only [Nat.zero_add])
  repeat ((first | refine V.s1 ?_); (try simp only [Nat.zero_add]))
  refine lp_any (0) (fun k => k ≤ 2 ∧ (0 < k → e0 = 0) ∧ (1 < k → e1 = 0)) (fun k => 2 - k) (fun k => [(3, .int .i64 k)]) (fun k => []) ?_ ?_ ?_
  · exact V.wk
  · exact ⟨Nat.zero_le _, by omega, by omega⟩
  intro k hk
  obtain ⟨hk, z0, z1⟩ := hk
  have hk4 : k = 0 ∨ k = 1 ∨ k = 2 := by omega
  rcases hk4 with e | e | e
  all_goals subst e
  · simp only [k0]
    (conv => whnf)
    (try simp only [zZ27_0])
    repeat ((first | refine V.s1 ?_ | ((try ((with_reducible refine .ext ?_); (conv => whnf); (try simp only [zZ27_0]))); (with_reducible refine call_intro (r := ?_) ?_ ?_); rotate_left; (focus (first | exact (c0))); (conv => whnf))); (try simp only [zZ27_0]))
    refine Cnd.split (CondB.mk (fun hq => ?_) (fun hq => ?_))
    · have hR : R = e0 := by
        rw [← hR0]
        simp at hq
        simp [hq]
      rw [hR]
      (conv => whnf)
      (try simp only [Nat.zero_add])
      repeat ((first | refine V.s1 ?_); (try simp only [Nat.zero_add]))
      exact Fin.of rfl
    (conv => whnf)
    (try simp only [Nat.zero_add])
    repeat ((first | refine V.s1 ?_); (try simp only [Nat.zero_add]))
    simp at hq
    exact ⟨1, ⟨by omega, by omega, by omega⟩, by omega, V.wk⟩
  · simp only [k1]
    have y0 := z0 (by omega)
    (conv => whnf)
    (try simp only [zZ27_0])
    repeat ((first | refine V.s1 ?_ | ((try ((with_reducible refine .ext ?_); (conv => whnf); (try simp only [zZ27_0]))); (with_reducible refine call_intro (r := ?_) ?_ ?_); rotate_left; (focus (first | exact (c1))); (conv => whnf))); (try simp only [zZ27_0]))
    refine Cnd.split (CondB.mk (fun hq => ?_) (fun hq => ?_))
    · have hR : R = e1 := by
        rw [← hR0]
        simp [y0]
      rw [hR]
      (conv => whnf)
      (try simp only [Nat.zero_add])
      repeat ((first | refine V.s1 ?_); (try simp only [Nat.zero_add]))
      exact Fin.of rfl
    (conv => whnf)
    (try simp only [Nat.zero_add])
    repeat ((first | refine V.s1 ?_); (try simp only [Nat.zero_add]))
    simp at hq
    exact ⟨2, ⟨by omega, by omega, by omega⟩, by omega, V.wk⟩
  · simp only [k2]
    have y0 := z0 (by omega)
    have y1 := z1 (by omega)
    have hR : R = 0 := by
      rw [← hR0]
      simp [y0, y1]
    rw [hR]
    (conv => whnf)
    (try simp only [Nat.zero_add])
    repeat ((first | refine V.s1 ?_); (try simp only [Nat.zero_add]))
    exact Fin.of rfl
theorem fst2_ok (a0 b0 a1 b1 : List UInt8) : fst2 (if okP a0 b0 then 0 else 20) (if okP a1 b1 then 0 else 20) = if okP a0 b0 && okP a1 b1 then 0 else 20 := by
  unfold fst2
  cases okP a0 b0 <;> cases okP a1 b1 <;> rfl
end Go.Proofs.YtfilfmadapjajaaGreatDoor
end
section
namespace Go.Proofs.YtfilfmadapjajaaGreatDoor
open Go Go.V Go.Nb
def po4 (x a b c d : Rat) : Rat := a * x ^ 3 + b * x ^ 2 + c * x + d
def po3 (x a b c : Rat) : Rat := a * x ^ 2 + b * x + c
def dayXQ (k : Int) : Rat := if k ≤ 7000 then po4 (Rat.divInt 1 k) (Rat.divInt (-4607000000) 1) (Rat.divInt 2967800 1) (Rat.divInt 9911 100) (Rat.divInt 244063 1000000) else po4 (Rat.divInt 1 k) (Rat.divInt (-2006400000) 1) (Rat.divInt 1901800 1) (Rat.divInt 24748 100) (Rat.divInt 23704 100000)
def dayYQ (x : Rat) : Rat := po3 x (Rat.divInt (-3) 1) (Rat.divInt 287 100) (Rat.divInt (-275) 1000)
def x2E (x y : Tx) (e : Int) : D := .tup [txD x, txD y, .int .i64 e]
def x1E (x : Tx) (e : Int) : D := .tup [txD x, .int .i64 e]
def dayX (k : Int) : D := if k < 4000 ∨ 25000 < k then x2E noX noX 2 else x2E (xT (dayXQ k)) (xT (dayYQ (dayXQ k))) 0
theorem fq10 {n m : Int} (hn : n.natAbs < 10000000000) (hm : 1 ≤ m ∧ m < 10000000000) : Fq 10 (Rat.divInt n m) := by
  obtain ⟨d, rfl⟩ : ∃ d : Nat, m = d := ⟨m.toNat, by omega⟩
  exact fq_divInt (by omega) (by omega) (by omega)
theorem fq_dayX {k : Int} (hk : 4000 ≤ k ∧ k ≤ 25000) : Fq 76 (dayXQ k) := by
  obtain ⟨d, rfl⟩ : ∃ d : Nat, k = d := ⟨k.toNat, by omega⟩
  have ht : Fq 5 (Rat.divInt 1 (d : Int)) := fq_divInt (by omega) (by omega) (by omega)
  unfold dayXQ
  split
  · exact fq_poly4 ht (fq10 (by omega) (by omega)) (fq10 (by omega) (by omega)) (fq10 (by omega) (by omega)) (fq10 (by omega) (by omega))
  · exact fq_poly4 ht (fq10 (by omega) (by omega)) (fq10 (by omega) (by omega)) (fq10 (by omega) (by omega)) (fq10 (by omega) (by omega))
theorem lday_c (k : Int) (hi : InR .i64 k) : Called Tryz.prog 29 [.int .i64 k] (dayX k) := by
  unfold dayX
  by_cases h : k < 4000 ∨ 25000 < k
  · rw [if_pos h]
    exact lday_no k h
  rw [if_neg h]
  have hx := fq_dayX (k := k) (by omega)
  have r4 := lratio (n := -3) (m := 1) (by omega) (by omega)
  have r5 := lratio (n := 287) (m := 100) (by omega) (by omega)
  have r6 := lratio (n := -275) (m := 1000) (by omega) (by omega)
  have p3 := lpoly3 hx (fq10 (n := -3) (m := 1) (by omega) (by omega)) (fq10 (n := 287) (m := 100) (by omega) (by omega)) (fq10 (n := -275) (m := 1000) (by omega) (by omega)) (by omega)
  have rt := lratio (n := 1) (m := k) (by omega) (by omega)
  obtain ⟨d, rfl⟩ : ∃ d : Nat, k = d := ⟨k.toNat, by omega⟩
  have ht : Fq 5 (Rat.divInt 1 (d : Int)) := fq_divInt (by omega) (by omega) (by omega)
  unfold slD frT at p3
  unfold frT at rt r4 r5 r6
  by_cases hk : (d : Int) ≤ 7000
  · have r0 := lratio (n := -4607000000) (m := 1) (by omega) (by omega)
    have r1 := lratio (n := 2967800) (m := 1) (by omega) (by omega)
    have r2 := lratio (n := 9911) (m := 100) (by omega) (by omega)
    have r3 := lratio (n := 244063) (m := 1000000) (by omega) (by omega)
    have p4 := lpoly4 ht (fq10 (n := -4607000000) (m := 1) (by omega) (by omega)) (fq10 (n := 2967800) (m := 1) (by omega) (by omega)) (fq10 (n := 9911) (m := 100) (by omega) (by omega)) (fq10 (n := 244063) (m := 1000000) (by omega) (by omega)) (by omega)
    have e : dayXQ d = Rat.divInt (-4607000000) 1 * Rat.divInt 1 (d : Int) ^ 3 + Rat.divInt 2967800 1 * Rat.divInt 1 (d : Int) ^ 2 + Rat.divInt 9911 100 * Rat.divInt 1 (d : Int) + Rat.divInt 244063 1000000 := by unfold dayXQ po4; rw [if_pos hk]
    rw [← e] at p4
    unfold slE frT at p4
    unfold frT at r0 r1 r2 r3
    exact lday_go _ (by omega) _ _ _ _ _ (guard_two_ok (daycl_a _ hk _ _ _ _ _ _ _ _ _ _ _ _ _ _ _ _ _ _ _ _ rt r0 r1 r2 r3 p4 r4 r5 r6 p3))
  · have r0 := lratio (n := -2006400000) (m := 1) (by omega) (by omega)
    have r1 := lratio (n := 1901800) (m := 1) (by omega) (by omega)
    have r2 := lratio (n := 24748) (m := 100) (by omega) (by omega)
    have r3 := lratio (n := 23704) (m := 100000) (by omega) (by omega)
    have p4 := lpoly4 ht (fq10 (n := -2006400000) (m := 1) (by omega) (by omega)) (fq10 (n := 1901800) (m := 1) (by omega) (by omega)) (fq10 (n := 24748) (m := 100) (by omega) (by omega)) (fq10 (n := 23704) (m := 100000) (by omega) (by omega)) (by omega)
    have e : dayXQ d = Rat.divInt (-2006400000) 1 * Rat.divInt 1 (d : Int) ^ 3 + Rat.divInt 1901800 1 * Rat.divInt 1 (d : Int) ^ 2 + Rat.divInt 24748 100 * Rat.divInt 1 (d : Int) + Rat.divInt 23704 100000 := by unfold dayXQ po4; rw [if_neg hk]
    rw [← e] at p4
    unfold slE frT at p4
    unfold frT at r0 r1 r2 r3
    exact lday_go _ (by omega) _ _ _ _ _ (guard_two_ok (daycl_b _ (by omega) _ _ _ _ _ _ _ _ _ _ _ _ _ _ _ _ _ _ _ _ rt r0 r1 r2 r3 p4 r4 r5 r6 p3))
end Go.Proofs.YtfilfmadapjajaaGreatDoor
end
section
namespace Go.Proofs.YtfilfmadapjajaaGreatDoor
open Go Go.V Go.Nb
theorem tcl_pan (a b c d : List UInt8) (r : Called Tryz.prog 51 [.int .i64 1858, .int .i64 10000] (.agg [.str a, .str b])) :
    Panics Tryz.prog 67 [.ref [.str a, .str b], .ref [.str c, .str d]] (.iface 38 (.int .i64 7)) := by
  refine panics_of_run tbOk 6 ⟨Tryz.func67, rfl, rfl, Nat.le_of_ble_eq_true rfl⟩ ?_
  (conv => whnf)
  (conv => whnf)
  (try simp only [Nat.zero_add])
  repeat ((first | refine V.s1 ?_ | ((try ((with_reducible refine .ext ?_); (conv => whnf); (try simp only [Nat.zero_add]))); (with_reducible refine call_intro (r := ?_) ?_ ?_); rotate_left; (focus (first | exact (r))); (conv => whnf))); (try simp only [Nat.zero_add]))
  refine Cnd.split (CondB.mk (fun hq => ?_) (fun hq => ?_))
  · (conv => whnf)
    (try simp only [Nat.zero_add])
    repeat ((first | refine V.s1 ?_); (try simp only [Nat.zero_add]))
    done
  · simp at hq
theorem tcl_ok (a b c d e f r0 q0 m0 n0 m1 n1 m2 n2 w0 x0 w1 x1 w2 x2 w3 x3 y0 z0 : List UInt8) (hne : ¬ (a = e ∧ b = f)) (r : Called Tryz.prog 51 [.int .i64 1858, .int .i64 10000] (.agg [.str e, .str f]))
    (k0 : Called Tryz.prog 51 [.int .i64 332, .int .i64 1000] (.agg [.str r0, .str q0])) (s0 : Called Tryz.prog 68 [.agg [.str c, .str d], .agg [.str r0, .str q0]] (.agg [.str m0, .str n0])) (s1 : Called Tryz.prog 68 [.agg [.str e, .str f], .agg [.str a, .str b]] (.agg [.str m1, .str n1]))
    (dv : Called Tryz.prog 62 [.agg [.str m0, .str n0], .agg [.str m1, .str n1]] (.agg [.str m2, .str n2]))
    (t0 : Called Tryz.prog 51 [.int .i64 449, .int .i64 1] (.agg [.str w0, .str x0])) (t1 : Called Tryz.prog 51 [.int .i64 3525, .int .i64 1] (.agg [.str w1, .str x1])) (t2 : Called Tryz.prog 51 [.int .i64 68233, .int .i64 10] (.agg [.str w2, .str x2])) (t3 : Called Tryz.prog 51 [.int .i64 552033, .int .i64 100] (.agg [.str w3, .str x3]))
    (p4 : Called Tryz.prog 65 [.agg [.str m2, .str n2], .slf 2 4 (fun j => List.take 2 (List.drop (j * 2) [.str w0, .str x0, .str w1, .str x1, .str w2, .str x2, .str w3, .str x3]))] (.agg [.str y0, .str z0])) :
    Called Tryz.prog 67 [.ref [.str a, .str b], .ref [.str c, .str d]] (.agg [.str y0, .str z0]) := by
  refine called_of_run tbOk 6 ⟨Tryz.func67, rfl, rfl, Nat.le_of_ble_eq_true rfl⟩ ?_
  (conv => whnf)
  (conv => whnf)
  (try simp only [Nat.zero_add])
  repeat ((first | refine V.s1 ?_ | ((try ((with_reducible refine .ext ?_); (conv => whnf); (try simp only [Nat.zero_add]))); (with_reducible refine call_intro (r := ?_) ?_ ?_); rotate_left; (focus (first | exact (r))); (conv => whnf))); (try simp only [Nat.zero_add]))
  refine Cnd.split (CondB.mk (fun hq => ?_) (fun hq => ?_))
  · exfalso
    simp at hq
    exact hne hq
  (conv => whnf)
  (try simp only [Nat.zero_add])
  repeat ((first | refine V.s1 ?_); (try simp only [Nat.zero_add]))
  refine ⟨(.take 0 (.take 3 (.take 4 (.ev (.cons 1 [4, 3, 0] (.ev (.cons 2 [4, 3] (.ev (.cons 5 [] (.ev (.cons 6 [] (.ev (.cons 7 [] (.ev (.cons 8 [] (.done) (.nil))) (.nil))) (.cons 7 [] (.ev (.cons 6 [] (.ev (.cons 8 [] (.done) (.nil))) (.nil))) (.nil)))) (.cons 7 [4, 3] (.ev (.cons 5 [] (.ev (.cons 6 [] (.ev (.cons 8 [] (.done) (.nil))) (.nil))) (.nil))) (.nil)))) (.cons 7 [4, 3, 0] (.ev (.cons 2 [4, 3] (.ev (.cons 5 [] (.ev (.cons 6 [] (.ev (.cons 8 [] (.done) (.nil))) (.nil))) (.nil))) (.nil))) (.nil)))) (.cons 7 [4, 3, 0] (.ev (.cons 1 [4, 3, 0] (.ev (.cons 2 [4, 3] (.ev (.cons 5 [] (.ev (.cons 6 [] (.ev (.cons 8 [] (.done) (.nil))) (.nil))) (.nil))) (.nil))) (.nil))) (.nil))))))), [], ⟨by kernel_rfl, by kernel_rfl, by kernel_rfl, by kernel_rfl⟩, ?_⟩
  refine drw_meet [(4, .box 4 0)] [(4, .box [.str m2, .str n2])] ?_ ?_
  · (conv => whnf); (try simp only [Nat.zero_add])
    repeat' (first | exact V.wk | ((first | refine V.s1 ?_ | ((with_reducible refine recheck_and ?_ ?_); (focus ((conv => whnf); (try simp only [Nat.zero_add]); (repeat (refine V.s1 ?_; (try simp only [Nat.zero_add]))); exact ⟨rfl⟩)); (conv => whnf)) | ((try ((with_reducible refine .ext ?_); (conv => whnf); (try simp only [Nat.zero_add]))); (with_reducible refine call_intro (r := ?_) ?_ ?_); rotate_left; (focus (first | exact (k0) | exact (s0) | exact (s1) | exact (dv))); (conv => whnf))); (try simp only [Nat.zero_add])) | (refine And.intro ?_ ?_ <;> (conv => whnf); (try simp only [Nat.zero_add])))
  (conv => whnf)
  (try simp only [Nat.zero_add])
  repeat ((first | refine V.s1 ?_); (try simp only [Nat.zero_add]))
  refine ⟨(.take 0 (.ev (.cons 1 [0] (.ev (.cons 2 [0] (.ev (.cons 3 [0] (.ev (.cons 4 [0] (.ev (.cons 5 [0] (.ev (.cons 6 [] (.ev (.cons 7 [] (.done) (.nil))) (.nil))) (.nil))) (.nil))) (.nil))) (.nil))) (.nil)))), [], ⟨by kernel_rfl, by kernel_rfl, by kernel_rfl, by kernel_rfl⟩, ?_⟩
  refine drw_meet [(22, .slf 2 4 (fun j => List.take 2 (List.drop (j * 2) [.str w0, .str x0, .str w1, .str x1, .str w2, .str x2, .str w3, .str x3])))] [(2, .box [.str y0, .str z0]), (22, .gone)] ?_ ?_
  · (conv => whnf); (try simp only [Nat.zero_add])
    repeat' (first | exact V.wk | ((first | refine V.s1 ?_ | ((with_reducible refine recheck_and ?_ ?_); (focus ((conv => whnf); (try simp only [Nat.zero_add]); (repeat (refine V.s1 ?_; (try simp only [Nat.zero_add]))); exact ⟨rfl⟩)); (conv => whnf)) | ((try ((with_reducible refine .ext ?_); (conv => whnf); (try simp only [Nat.zero_add]))); (with_reducible refine call_intro (r := ?_) ?_ ?_); rotate_left; (focus (first | exact (t0) | exact (t1) | exact (t2) | exact (t3) | exact (p4))); (conv => whnf))); (try simp only [Nat.zero_add])) | (refine And.intro ?_ ?_ <;> (conv => whnf); (try simp only [Nat.zero_add])))
  (conv => whnf)
  (try simp only [Nat.zero_add])
  repeat ((first | refine V.s1 ?_); (try simp only [Nat.zero_add]))
  exact Fin.of rfl
theorem ltemp_no (a b c d : List UInt8) (e : Int) (he : e ≠ 0) (fr : Called Tryz.prog 43 [.slf 2 2 (fun j => List.take 2 (List.drop (j * 2) [.str a, .str b, .str c, .str d]))] (.int .i64 e)) :
    Called Tryz.prog 31 [.agg [.str a, .str b], .agg [.str c, .str d]] (.tup [.agg [.str [], .str []], .int .i64 e]) := by
  refine called_of_run tbOk 6 ⟨Tryz.func31, rfl, rfl, Nat.le_of_ble_eq_true rfl⟩ ?_
  (conv => whnf)
  (conv => whnf)
  (try simp only [Nat.zero_add])
  repeat ((first | refine V.s1 ?_ | ((try ((with_reducible refine .ext ?_); (conv => whnf); (try simp only [Nat.zero_add]))); (with_reducible refine call_intro (r := ?_) ?_ ?_); rotate_left; (focus (first | exact (fr))); (conv => whnf))); (try simp only [Nat.zero_add]))
  refine Cnd.split (CondB.mk (fun hq => ?_) (fun hq => ?_))
  · (conv => whnf)
    (try simp only [Nat.zero_add])
    repeat ((first | refine V.s1 ?_); (try simp only [Nat.zero_add]))
    exact Fin.of rfl
  · exfalso
    simp at hq
    exact he hq
theorem ltemp_go (a b c d u v : List UInt8) (e : Int) (fr : Called Tryz.prog 43 [.slf 2 2 (fun j => List.take 2 (List.drop (j * 2) [.str a, .str b, .str c, .str d]))] (.int .i64 0))
    (g : Called Tryz.prog 66 [.fn 67 [] [.ref [.str c, .str d], .ref [.str a, .str b]]] (.tup [.agg [.str u, .str v], .int .i64 e])) :
    Called Tryz.prog 31 [.agg [.str a, .str b], .agg [.str c, .str d]] (.tup [.agg [.str u, .str v], .int .i64 e]) := by
  refine called_of_run tbOk 6 ⟨Tryz.func31, rfl, rfl, Nat.le_of_ble_eq_true rfl⟩ ?_
  (conv => whnf)
  (conv => whnf)
  (try simp only [Nat.zero_add])
  repeat ((first | refine V.s1 ?_ | ((try ((with_reducible refine .ext ?_); (conv => whnf); (try simp only [Nat.zero_add]))); (with_reducible refine call_intro (r := ?_) ?_ ?_); rotate_left; (focus (first | exact (fr) | exact (g))); (conv => whnf))); (try simp only [Nat.zero_add]))
  exact Fin.of rfl
def pole : Rat := Rat.divInt 1858 10000
def tempQ (x y : Rat) : Rat := po4 ((x - Rat.divInt 332 1000) / (pole - y)) (Rat.divInt 449 1) (Rat.divInt 3525 1) (Rat.divInt 68233 10) (Rat.divInt 552033 100)
def tempX (x y : Tx) : D := if okX x && okX y then (if qX y = pole then x1E noX 7 else x1E (xT (tempQ (qX x) (qX y))) 0) else x1E noX 20
theorem tx_eq {x : Tx} (h : okX x = true) {n : Nat} {p : Rat} (hp : Fq n p) (h0 : 0 < n ∧ n ≤ 600) : (x.1 = decZ p.num ∧ x.2 = dec p.den) ↔ qX x = p := by
  constructor
  · intro e
    have : x = xT p := Prod.ext e.1 e.2
    rw [this]
    exact (xT_ok hp h0).2
  · intro e
    have := qX_text h
    rw [e] at this
    rw [← this]
    exact ⟨rfl, rfl⟩
theorem ltemp_c {n : Nat} {x y : Tx} (bx : BdX n x) (b_y : BdX n y) (h0 : 0 < n ∧ n ≤ 20) : Called Tryz.prog 31 [txD x, txD y] (tempX x y) := by
  have f1 := fractions2 x.1 x.2 y.1 y.2 _ _ (fcheck_c _ _ bx.1.1 bx.1.2) (fcheck_c _ _ b_y.1.1 b_y.1.2)
  rw [fst2_ok] at f1
  change Called Tryz.prog 43 _ (.int .i64 (if okX x && okX y then 0 else 20)) at f1
  unfold tempX
  by_cases h : (okX x && okX y) = true
  · rw [if_pos h] at f1 ⊢
    simp only [Bool.and_eq_true] at h
    obtain ⟨hx, hy⟩ := h
    have qx := bx.2 hx
    have qy := b_y.2 hy
    have ex := txD_q hx
    have ey := txD_q hy
    have r := lratio (n := 1858) (m := 10000) (by omega) (by omega)
    have fp : Fq 10 pole := fq10 (by omega) (by omega)
    have eq := tx_eq hy fp (by omega)
    by_cases g : qX y = pole
    · rw [if_pos g]
      have e2 := eq.2 g
      refine ltemp_go _ _ _ _ _ _ _ f1 (guard_one_pan (by simp [InR, V.lo, V.hi]) ?_)
      rw [e2.1, e2.2]
      exact tcl_pan _ _ _ _ r
    · rw [if_neg g]
      have k0 := lratio (n := 332) (m := 1000) (by omega) (by omega)
      have f3 : Fq 10 (Rat.divInt 332 1000) := fq10 (by omega) (by omega)
      have s0 := lsub qx f3 h0.1 (by omega) (by omega)
      have s1 := lsub fp qy (by omega) h0.1 (by omega)
      have hd : (pole - qX y).num ≠ 0 := fun e => g (by
        have := Rat.num_eq_zero.1 e
        have h2 : pole - qX y + qX y = pole := by rw [Rat.sub_add_cancel]
        rw [this, Rat.zero_add] at h2
        exact h2)
      have dv := ldiv (qx.sub f3) (fp.sub qy) hd (by omega) (by omega) (by omega)
      have fn := (qx.sub f3).div (fp.sub qy) hd
      have t0 := lratio (n := 449) (m := 1) (by omega) (by omega)
      have t1 := lratio (n := 3525) (m := 1) (by omega) (by omega)
      have t2 := lratio (n := 68233) (m := 10) (by omega) (by omega)
      have t3 := lratio (n := 552033) (m := 100) (by omega) (by omega)
      have p4 := lpoly4 fn (fq10 (n := 449) (m := 1) (by omega) (by omega)) (fq10 (n := 3525) (m := 1) (by omega) (by omega)) (fq10 (n := 68233) (m := 10) (by omega) (by omega)) (fq10 (n := 552033) (m := 100) (by omega) (by omega)) (by omega)
      rw [← ex] at s0
      rw [← ey] at s1
      unfold slE frT at p4
      unfold frT at r k0 t0 t1 t2 t3 dv
      unfold frT txD at s0 s1
      exact ltemp_go _ _ _ _ _ _ _ f1 (guard_one_ok (tcl_ok _ _ _ _ _ _ _ _ _ _ _ _ _ _ _ _ _ _ _ _ _ _ _ _ (fun e => g (eq.1 e)) r k0 s0 s1 dv t0 t1 t2 t3 p4))
  · rw [if_neg h] at f1 ⊢
    exact ltemp_no _ _ _ _ _ (by omega) f1
end Go.Proofs.YtfilfmadapjajaaGreatDoor
end
section
namespace Go.Proofs.YtfilfmadapjajaaGreatDoor
open Go Go.V Go.Nb
def numQ (n d : Int) : Rat := Rat.divInt n (1 + d)
theorem numFrac_c (n d : Int) (hn : -32768 ≤ n ∧ n ≤ 32767) (hd : 0 ≤ d ∧ d ≤ 255) : Called Tryz.prog 22 [.agg [.int .i16 n, .int .u8 d]] (frT (numQ n d)) := by
  have c := r23of (n := n) (m := 1 + d) (by omega) (by omega)
  unfold numQ frT at *
  generalize Rat.divInt n (1 + d) = q at *
  refine called_of_run tbOk 6 ⟨Tryz.func22, rfl, rfl, Nat.le_of_ble_eq_true rfl⟩ ?_
  (conv => whnf)
  (conv => whnf)
  (try simp only [Nat.zero_add])
  repeat ((first | refine V.s1 ?_ | ((try ((with_reducible refine .ext ?_); (conv => whnf); (try simp only [Nat.zero_add]))); (with_reducible refine call_intro (r := ?_) ?_ ?_); rotate_left; (focus (first | exact (c))); (conv => whnf))); (try simp only [Nat.zero_add]))
  exact Fin.of rfl
def shN (n d : Int) : Int := if n.tmod (1 + d + 1) < 0 then -(n.tmod (1 + d + 1)) else n.tmod (1 + d + 1)
def shQ (n d : Int) : Rat := Rat.divInt (shN n d) (1 + d)
theorem shN_bd (n d : Int) (hd : 0 ≤ d ∧ d ≤ 255) : 0 ≤ shN n d ∧ shN n d ≤ 1 + d := by
  unfold shN
  have h1 := Int.tmod_lt_of_pos n (show 0 < 1 + d + 1 by omega)
  have h2 := Int.lt_tmod_of_pos n (show 0 < 1 + d + 1 by omega)
  split <;> omega
theorem numShare_c (n d : Int) (hn : -32768 ≤ n ∧ n ≤ 32767) (hd : 0 ≤ d ∧ d ≤ 255) : Called Tryz.prog 23 [.agg [.int .i16 n, .int .u8 d]] (frT (shQ n d)) := by
  have hb := shN_bd n d hd
  have c := r23of (n := shN n d) (m := 1 + d) (by omega) (by omega)
  unfold shQ frT at *
  generalize Rat.divInt (shN n d) (1 + d) = q at *
  unfold shN at c
  have h1 := Int.tmod_lt_of_pos n (show 0 < 1 + d + 1 by omega)
  have h2 := Int.lt_tmod_of_pos n (show 0 < 1 + d + 1 by omega)
  clear hb
  obtain ⟨m, hm⟩ : ∃ m, n.tmod (1 + d + 1) = m := ⟨_, rfl⟩
  rw [hm] at c h1 h2
  refine called_of_run tbOk 6 ⟨Tryz.func23, rfl, rfl, Nat.le_of_ble_eq_true rfl⟩ ?_
  (conv => whnf)
  (conv => whnf)
  (try simp only [Nat.zero_add, hm])
  repeat ((first | refine V.s1 ?_); (try simp only [Nat.zero_add, hm]))
  refine Cnd.split (CondB.mk (fun hq => ?_) (fun hq => ?_))
  · rw [decide_eq_true_eq] at hq
    rw [if_pos hq] at c
    rw [← Int.zero_sub] at c
    (conv => whnf)
    (try simp only [Nat.zero_add, hm])
    repeat ((first | refine V.s1 ?_ | ((try ((with_reducible refine .ext ?_); (conv => whnf); (try simp only [Nat.zero_add, hm]))); (with_reducible refine call_intro (r := ?_) ?_ ?_); rotate_left; (focus (first | exact (c))); (conv => whnf))); (try simp only [Nat.zero_add, hm]))
    exact Fin.of rfl
  · rw [decide_eq_false_iff_not] at hq
    rw [if_neg hq] at c
    (conv => whnf)
    (try simp only [Nat.zero_add, hm])
    repeat ((first | refine V.s1 ?_ | ((try ((with_reducible refine .ext ?_); (conv => whnf); (try simp only [Nat.zero_add, hm]))); (with_reducible refine call_intro (r := ?_) ?_ ?_); rotate_left; (focus (first | exact (c))); (conv => whnf))); (try simp only [Nat.zero_add, hm]))
    exact Fin.of rfl
theorem zZ31_0 : type_of% @Nat.zero_add ∧ type_of% @tn0 ∧ type_of% @tn1 ∧ type_of% @tn2 := ⟨@Nat.zero_add, @tn0, @tn1, @tn2⟩
theorem tri_c (a b c : Int) (ha : 0 ≤ a ∧ a ≤ 65535) (hb : 0 ≤ b ∧ b ≤ 65535) (hc : 0 ≤ c ∧ c ≤ 65535) : Called Tryz.prog 12 [.iarr .u16 [a, b, c]] (triQ (Rat.divInt a 1000) (Rat.divInt b 1000) (Rat.divInt c 1000)) := by
  have c1 := r23of (n := a) (m := 1000) (by omega) (by omega)
  have c2 := r23of (n := b) (m := 1000) (by omega) (by omega)
  have c3 := r23of (n := c) (m := 1000) (by omega) (by omega)
  unfold frT triQ at *
  generalize Rat.divInt a 1000 = p at *
  generalize Rat.divInt b 1000 = q at *
  generalize Rat.divInt c 1000 = r at *
  refine called_of_run tbOk 6 ⟨Tryz.func12, rfl, rfl, Nat.le_of_ble_eq_true rfl⟩ ?_
  (conv => whnf)
  (conv => whnf)
  (try simp only [Nat.zero_add])
  repeat ((first | refine V.s1 ?_); (try simp only [Nat.zero_add]))
  refine ⟨(.take 0 (.take 1 (.take 2 (.take 4 (.take 5 (.take 6 (.take 8 (.take 9 (.take 10 (.ev (.cons 3 [10, 9, 8, 6, 5, 4] (.ev (.cons 7 [10, 9, 8] (.ev (.cons 11 [] (.take 12 (.ev (.cons 13 [] (.done) (.nil)))) (.nil))) (.nil))) (.nil)))))))))))), [], ⟨by kernel_rfl, by kernel_rfl, by kernel_rfl, by kernel_rfl⟩, ?_⟩
  refine drw_meet [] [(2, .box [.str (decZ p.num), .str (dec p.den), .str (decZ q.num), .str (dec q.den), .str (decZ r.num), .str (dec r.den)])] ?_ ?_
  · (conv => whnf); (try simp only [zZ31_0])
    repeat' (first | exact V.wk | ((first | refine V.s1 ?_ | ((with_reducible refine recheck_and ?_ ?_); (focus ((conv => whnf); (try simp only [zZ31_0]); (repeat (refine V.s1 ?_; (try simp only [zZ31_0]))); exact ⟨rfl⟩)); (conv => whnf)) | ((try ((with_reducible refine .ext ?_); (conv => whnf); (try simp only [zZ31_0]))); (with_reducible refine call_intro (r := ?_) ?_ ?_); rotate_left; (focus (first | exact (c1) | exact (c2) | exact (c3))); (conv => whnf))); (try simp only [zZ31_0])) | (refine And.intro ?_ ?_ <;> (conv => whnf); (try simp only [zZ31_0])))
  (conv => whnf)
  (try simp only [Nat.zero_add])
  repeat ((first | refine V.s1 ?_); (try simp only [Nat.zero_add]))
  exact Fin.of rfl
theorem gd0 (a b c : Int) : [a, b, c].getD 0 0 = a := rfl
theorem gd1 (a b c : Int) : [a, b, c].getD 1 0 = b := rfl
theorem gd2 (a b c : Int) : [a, b, c].getD 2 0 = c := rfl
theorem white_c (a b c : Int) (ha : 0 ≤ a ∧ a ≤ 65535) (hb : 0 ≤ b ∧ b ≤ 65535) (hc : 0 ≤ c ∧ c ≤ 65535) : Called Tryz.prog 13 [.iarr .u16 [a, b, c]] (triQ (Rat.divInt (1 + a % 2000) 1000) (Rat.divInt (1 + b % 2000) 1000) (Rat.divInt (1 + c % 2000) 1000)) := by
  have c1 := r23of (n := 1 + a % 2000) (m := 1000) (by omega) (by omega)
  have c2 := r23of (n := 1 + b % 2000) (m := 1000) (by omega) (by omega)
  have c3 := r23of (n := 1 + c % 2000) (m := 1000) (by omega) (by omega)
  unfold frT triQ at *
  generalize Rat.divInt (1 + a % 2000) 1000 = p at *
  generalize Rat.divInt (1 + b % 2000) 1000 = q at *
  generalize Rat.divInt (1 + c % 2000) 1000 = r at *
  have ea : a.tmod 2000 = a % 2000 := Int.tmod_eq_emod_of_nonneg ha.1
  have eb : b.tmod 2000 = b % 2000 := Int.tmod_eq_emod_of_nonneg hb.1
  have ec : c.tmod 2000 = c % 2000 := Int.tmod_eq_emod_of_nonneg hc.1
  obtain ⟨a', ha'⟩ : ∃ a', a % 2000 = a' := ⟨_, rfl⟩
  obtain ⟨b', hb'⟩ : ∃ b', b % 2000 = b' := ⟨_, rfl⟩
  obtain ⟨c', hc'⟩ : ∃ c', c % 2000 = c' := ⟨_, rfl⟩
  have ba : 0 ≤ a' ∧ a' < 2000 := by omega
  have bb : 0 ≤ b' ∧ b' < 2000 := by omega
  have bc : 0 ≤ c' ∧ c' < 2000 := by omega
  rw [ha'] at ea c1
  rw [hb'] at eb c2
  rw [hc'] at ec c3
  refine called_of_run tbOk 6 ⟨Tryz.func13, rfl, rfl, Nat.le_of_ble_eq_true rfl⟩ ?_
  (conv => whnf)
  (conv => whnf)
  (try simp only [Nat.zero_add])
  repeat ((first | refine V.s1 ?_); (try simp only [Nat.zero_add]))
  refine ⟨(.take 0 (.take 1 (.take 2 (.take 3 (.take 4 (.take 6 (.take 7 (.take 8 (.take 9 (.take 10 (.take 12 (.take 13 (.take 14 (.take 15 (.take 16 (.ev (.cons 5 [16, 15, 14, 13, 12, 10, 9, 8, 7, 6] (.ev (.cons 11 [16, 15, 14, 13, 12] (.ev (.cons 17 [] (.take 18 (.ev (.cons 19 [] (.done) (.nil)))) (.nil))) (.nil))) (.nil)))))))))))))))))), [], ⟨by kernel_rfl, by kernel_rfl, by kernel_rfl, by kernel_rfl⟩, ?_⟩
  refine drw_meet [] [(2, .box [.str (decZ p.num), .str (dec p.den), .str (decZ q.num), .str (dec q.den), .str (decZ r.num), .str (dec r.den)])] ?_ ?_
  · (conv => whnf); (try simp only [Nat.zero_add, tn0, tn1, tn2, gd0, gd1, gd2, ea, eb, ec, ha', hb', hc'])
    repeat' (first | exact V.wk | ((first | refine V.s1 ?_ | ((with_reducible refine recheck_and ?_ ?_); (focus ((conv => whnf); (try simp only [Nat.zero_add, tn0, tn1, tn2, gd0, gd1, gd2, ea, eb, ec, ha', hb', hc']); (repeat (refine V.s1 ?_; (try simp only [Nat.zero_add, tn0, tn1, tn2, gd0, gd1, gd2, ea, eb, ec, ha', hb', hc']))); exact ⟨rfl⟩)); (conv => whnf)) | ((try ((with_reducible refine .ext ?_); (conv => whnf); (try simp only [Nat.zero_add, tn0, tn1, tn2, gd0, gd1, gd2, ea, eb, ec, ha', hb', hc']))); (with_reducible refine call_intro (r := ?_) ?_ ?_); rotate_left; (focus (first | exact (c1) | exact (c2) | exact (c3))); (conv => whnf))); (try simp only [Nat.zero_add, tn0, tn1, tn2, gd0, gd1, gd2, ea, eb, ec, ha', hb', hc'])) | (refine And.intro ?_ ?_ <;> (conv => whnf); (try simp only [Nat.zero_add, tn0, tn1, tn2, gd0, gd1, gd2, ea, eb, ec, ha', hb', hc'])))
  (conv => whnf)
  (try simp only [Nat.zero_add])
  repeat ((first | refine V.s1 ?_); (try simp only [Nat.zero_add]))
  exact Fin.of rfl
theorem oddFrac_c (s t : List UInt8) : Called Tryz.prog 24 [.agg [.str s, .str t]] (.agg [.str (s.take 20), .str (t.take 20)]) := by
  have tk : ∀ l : List UInt8, List.take (min (l.length : Int) 20).toNat l = l.take 20 := fun l => by
    rcases Nat.le_total l.length 20 with h | h
    · rw [show (min (l.length : Int) 20).toNat = l.length by omega, List.take_length, List.take_of_length_le h]
    · rw [show (min (l.length : Int) 20).toNat = 20 by omega]
  refine called_of_run tbOk 6 ⟨Tryz.func24, rfl, rfl, Nat.le_of_ble_eq_true rfl⟩ ?_
  (conv => whnf)
  (conv => whnf)
  (try simp only [Nat.zero_add])
  repeat ((first | refine V.s1 ?_); (try simp only [Nat.zero_add]))
  refine ⟨(.take 0 (.take 1 (.take 2 (.take 3 (.take 4 (.take 5 (.take 6 (.take 7 (.take 8 (.take 9 (.take 10 (.take 11 (.take 12 (.take 13 (.take 14 (.ev (.cons 15 [] (.done) (.nil)))))))))))))))))), [], ⟨by kernel_rfl, by kernel_rfl, by kernel_rfl, by kernel_rfl⟩, ?_⟩
  refine drw_meet [] [(2, .box [.str (s.take 20), .str (t.take 20)])] ?_ ?_
  · (conv => whnf); (try simp only [zZ31_0, tk])
    repeat' (first | exact V.wk | ((first | refine V.s1 ?_ | ((with_reducible refine recheck_and ?_ ?_); (focus ((conv => whnf); (try simp only [zZ31_0, tk]); (repeat (refine V.s1 ?_; (try simp only [zZ31_0, tk]))); exact ⟨rfl⟩)); (conv => whnf))); (try simp only [zZ31_0, tk])) | (refine And.intro ?_ ?_ <;> (conv => whnf); (try simp only [zZ31_0, tk])))
  (conv => whnf)
  (try simp only [Nat.zero_add])
  repeat ((first | refine V.s1 ?_); (try simp only [Nat.zero_add]))
  exact Fin.of rfl
end Go.Proofs.YtfilfmadapjajaaGreatDoor
end
section
namespace Go.Proofs.YtfilfmadapjajaaGreatDoor
open Go Go.V Go.Nb
theorem law_of {n m : Int} (hn : -9223372036854775807 ≤ n ∧ n ≤ 9223372036854775807) (hm : 1 ≤ m ∧ m ≤ 9223372036854775807) : Called Tryz.prog 35 [.int .i64 n, .int .i64 m] (frT (Rat.divInt n m)) := by
  have c := zof hn hm
  unfold frT at *
  generalize Rat.divInt n m = q at *
  refine called_of_run tbOk 6 ⟨Tryz.func35, rfl, rfl, Nat.le_of_ble_eq_true rfl⟩ ?_
  (conv => whnf)
  refine V.st ?_
  repeat ((try ((with_reducible refine .ext ?_); (conv => whnf))); (with_reducible refine call_intro (r := ?_) ?_ ?_); rotate_left; (focus (first | exact (c))); (conv => whnf); refine V.st ?_)
  exact Fin.of rfl
theorem law_tri {x y z d : Int} (hx : -9223372036854775807 ≤ x ∧ x ≤ 9223372036854775807) (hy : -9223372036854775807 ≤ y ∧ y ≤ 9223372036854775807) (hz : -9223372036854775807 ≤ z ∧ z ≤ 9223372036854775807) (hd : 1 ≤ d ∧ d ≤ 9223372036854775807) :
    Called Tryz.prog 40 [.int .i64 x, .int .i64 y, .int .i64 z, .int .i64 d] (triQ (Rat.divInt x d) (Rat.divInt y d) (Rat.divInt z d)) := by
  have c1 := law_of hx hd
  have c2 := law_of hy hd
  have c3 := law_of hz hd
  unfold frT triQ at *
  generalize Rat.divInt x d = p at *
  generalize Rat.divInt y d = q at *
  generalize Rat.divInt z d = r at *
  refine called_of_run tbOk 6 ⟨Tryz.func40, rfl, rfl, Nat.le_of_ble_eq_true rfl⟩ ?_
  (conv => whnf)
  refine V.st ?_
  repeat ((try ((with_reducible refine .ext ?_); (conv => whnf))); (with_reducible refine call_intro (r := ?_) ?_ ?_); rotate_left; (focus (first | exact (c1) | exact (c2) | exact (c3))); (conv => whnf); refine V.st ?_)
  exact Fin.of rfl
end Go.Proofs.YtfilfmadapjajaaGreatDoor
end
section
namespace Go.Proofs.YtfilfmadapjajaaGreatDoor
open Go Go.V Go.Nb
theorem c_eq {P : Program} {f : Nat} {ds : List D} {r : D} (r' : D) (h : Called P f ds r) (e : r = r') : Called P f ds r' := e ▸ h
theorem bdt {n : Nat} {s t : List UInt8} (hs : s.length ≤ 20) (ht : t.length ≤ 20) (hn : 20 ≤ n) : BdX n (s, t) := (odd_bd hs ht).mono hn
theorem o_332_1000 : Called Tryz.prog 35 [.int .i64 332, .int .i64 1000] (.agg [.str [56, 51], .str [50, 53, 48]]) := c_eq _ (law_of (by omega) (by omega)) (by kernel_rfl)
theorem o_3_10 : Called Tryz.prog 35 [.int .i64 3, .int .i64 10] (.agg [.str [51], .str [49, 48]]) := c_eq _ (law_of (by omega) (by omega)) (by kernel_rfl)
theorem o_1858_10000 : Called Tryz.prog 35 [.int .i64 1858, .int .i64 10000] (.agg [.str [57, 50, 57], .str [53, 48, 48, 48]]) := c_eq _ (law_of (by omega) (by omega)) (by kernel_rfl)
theorem o_1_3 : Called Tryz.prog 35 [.int .i64 1, .int .i64 3] (.agg [.str [49], .str [51]]) := c_eq _ (law_of (by omega) (by omega)) (by kernel_rfl)
theorem o_1_1 : Called Tryz.prog 35 [.int .i64 1, .int .i64 1] (.agg [.str [49], .str [49]]) := c_eq _ (law_of (by omega) (by omega)) (by kernel_rfl)
theorem o_1_2 : Called Tryz.prog 35 [.int .i64 1, .int .i64 2] (.agg [.str [49], .str [50]]) := c_eq _ (law_of (by omega) (by omega)) (by kernel_rfl)
theorem o_1_4 : Called Tryz.prog 35 [.int .i64 1, .int .i64 4] (.agg [.str [49], .str [52]]) := c_eq _ (law_of (by omega) (by omega)) (by kernel_rfl)
theorem o_0_1 : Called Tryz.prog 35 [.int .i64 0, .int .i64 1] (.agg [.str [48], .str [49]]) := c_eq _ (law_of (by omega) (by omega)) (by kernel_rfl)
theorem o_2_1 : Called Tryz.prog 35 [.int .i64 2, .int .i64 1] (.agg [.str [50], .str [49]]) := c_eq _ (law_of (by omega) (by omega)) (by kernel_rfl)
theorem o_345741_1000000 : Called Tryz.prog 35 [.int .i64 345741, .int .i64 1000000] (.agg [.str [51, 52, 53, 55, 52, 49], .str [49, 48, 48, 48, 48, 48, 48]]) := c_eq _ (law_of (by omega) (by omega)) (by kernel_rfl)
theorem o_358666152757_1000000000000 : Called Tryz.prog 35 [.int .i64 358666152757, .int .i64 1000000000000] (.agg [.str [51, 53, 56, 54, 54, 54, 49, 53, 50, 55, 53, 55], .str [49, 48, 48, 48, 48, 48, 48, 48, 48, 48, 48, 48, 48]]) := c_eq _ (law_of (by omega) (by omega)) (by kernel_rfl)
theorem o_552033_100 : Called Tryz.prog 35 [.int .i64 552033, .int .i64 100] (.agg [.str [53, 53, 50, 48, 51, 51], .str [49, 48, 48]]) := c_eq _ (law_of (by omega) (by omega)) (by kernel_rfl)
theorem o_3_2 : Called Tryz.prog 35 [.int .i64 3, .int .i64 2] (.agg [.str [51], .str [50]]) := c_eq _ (law_of (by omega) (by omega)) (by kernel_rfl)
theorem t_1_2_1_1 : Called Tryz.prog 40 [.int .i64 1, .int .i64 2, .int .i64 1, .int .i64 1] (.agg [.str [49], .str [49], .str [50], .str [49], .str [49], .str [49]]) := c_eq _ (law_tri (by omega) (by omega) (by omega) (by omega)) (by kernel_rfl)
theorem t_0_0_0_1 : Called Tryz.prog 40 [.int .i64 0, .int .i64 0, .int .i64 0, .int .i64 1] (.agg [.str [48], .str [49], .str [48], .str [49], .str [48], .str [49]]) := c_eq _ (law_tri (by omega) (by omega) (by omega) (by omega)) (by kernel_rfl)
theorem t_1_1_1_1 : Called Tryz.prog 40 [.int .i64 1, .int .i64 1, .int .i64 1, .int .i64 1] (.agg [.str [49], .str [49], .str [49], .str [49], .str [49], .str [49]]) := c_eq _ (law_tri (by omega) (by omega) (by omega) (by omega)) (by kernel_rfl)
theorem t_2_1_1_1 : Called Tryz.prog 40 [.int .i64 2, .int .i64 1, .int .i64 1, .int .i64 1] (.agg [.str [50], .str [49], .str [49], .str [49], .str [49], .str [49]]) := c_eq _ (law_tri (by omega) (by omega) (by omega) (by omega)) (by kernel_rfl)
theorem t_1_2_4_2 : Called Tryz.prog 40 [.int .i64 1, .int .i64 2, .int .i64 4, .int .i64 2] (.agg [.str [49], .str [50], .str [49], .str [49], .str [50], .str [49]]) := c_eq _ (law_tri (by omega) (by omega) (by omega) (by omega)) (by kernel_rfl)
theorem t_0_1_3_1 : Called Tryz.prog 40 [.int .i64 0, .int .i64 1, .int .i64 3, .int .i64 1] (.agg [.str [48], .str [49], .str [49], .str [49], .str [51], .str [49]]) := c_eq _ (law_tri (by omega) (by omega) (by omega) (by omega)) (by kernel_rfl)
theorem x_to1 : Called Tryz.prog 27 [.agg [.str [49], .str [49], .str [50], .str [49], .str [49], .str [49]]] (.tup [.agg [.str [49], .str [52]], .agg [.str [49], .str [50]], .agg [.str [50], .str [49]], .int .i64 0]) := c_eq _ (lto_c (n := 20) (x := ([49], [49])) (y := ([50], [49])) (z := ([49], [49])) (bdt (by decide) (by decide) (by decide)) (bdt (by decide) (by decide) (by decide)) (bdt (by decide) (by decide) (by decide)) (by decide)) (by kernel_rfl)
theorem x_to2 : Called Tryz.prog 27 [.agg [.str [48], .str [49], .str [48], .str [49], .str [48], .str [49]]] (.tup [.agg [.str [], .str []], .agg [.str [], .str []], .agg [.str [], .str []], .int .i64 7]) := c_eq _ (lto_c (n := 20) (x := ([48], [49])) (y := ([48], [49])) (z := ([48], [49])) (bdt (by decide) (by decide) (by decide)) (bdt (by decide) (by decide) (by decide)) (bdt (by decide) (by decide) (by decide)) (by decide)) (by kernel_rfl)
theorem x_day1 : Called Tryz.prog 29 [.int .i64 5000] (.tup [.agg [.str [51, 52, 53, 55, 52, 49], .str [49, 48, 48, 48, 48, 48, 48]], .agg [.str [51, 53, 56, 54, 54, 54, 49, 53, 50, 55, 53, 55], .str [49, 48, 48, 48, 48, 48, 48, 48, 48, 48, 48, 48, 48]], .int .i64 0]) := c_eq _ (lday_c 5000 (by simp [InR, V.lo, V.hi])) (by kernel_rfl)
theorem x_day2 : Called Tryz.prog 29 [.int .i64 3999] (.tup [.agg [.str [], .str []], .agg [.str [], .str []], .int .i64 2]) := c_eq _ (lday_c 3999 (by simp [InR, V.lo, V.hi])) (by kernel_rfl)
theorem x_temp1 : Called Tryz.prog 31 [.agg [.str [56, 51], .str [50, 53, 48]], .agg [.str [51], .str [49, 48]]] (.tup [.agg [.str [53, 53, 50, 48, 51, 51], .str [49, 48, 48]], .int .i64 0]) := c_eq _ (ltemp_c (n := 20) (x := ([56, 51], [50, 53, 48])) (y := ([51], [49, 48])) (bdt (by decide) (by decide) (by decide)) (bdt (by decide) (by decide) (by decide)) (by decide)) (by kernel_rfl)
theorem x_temp2 : Called Tryz.prog 31 [.agg [.str [51], .str [49, 48]], .agg [.str [57, 50, 57], .str [53, 48, 48, 48]]] (.tup [.agg [.str [], .str []], .int .i64 7]) := c_eq _ (ltemp_c (n := 20) (x := ([51], [49, 48])) (y := ([57, 50, 57], [53, 48, 48, 48])) (bdt (by decide) (by decide) (by decide)) (bdt (by decide) (by decide) (by decide)) (by decide)) (by kernel_rfl)
theorem x_w7 : Called Tryz.prog 19 [.int .i64 7] (.tup [.agg [.str [49], .str [49], .str [49], .str [49], .str [49], .str [49]], .int .i64 0]) := c_eq _ (lwhite_c 7) (by kernel_rfl)
theorem x_w0 : Called Tryz.prog 19 [.int .i64 0] (.tup [.agg [.str [], .str [], .str [], .str [], .str [], .str []], .int .i64 2]) := c_eq _ (lwhite_c 0) (by kernel_rfl)
theorem x_w8 : Called Tryz.prog 19 [.int .i64 8] (.tup [.agg [.str [], .str [], .str [], .str [], .str [], .str []], .int .i64 2]) := c_eq _ (lwhite_c 8) (by kernel_rfl)
theorem x_f1 : Called Tryz.prog 25 [.agg [.str [49], .str [51]], .agg [.str [49], .str [51]], .agg [.str [49], .str [49]]] (.tup [.agg [.str [49], .str [49], .str [49], .str [49], .str [49], .str [49]], .int .i64 0]) := c_eq _ (lfrom_c (n := 20) (x := ([49], [51])) (y := ([49], [51])) (l := ([49], [49])) (bdt (by decide) (by decide) (by decide)) (bdt (by decide) (by decide) (by decide)) (bdt (by decide) (by decide) (by decide)) (by decide)) (by kernel_rfl)
theorem x_f2 : Called Tryz.prog 25 [.agg [.str [49], .str [50]], .agg [.str [49], .str [52]], .agg [.str [49], .str [49]]] (.tup [.agg [.str [50], .str [49], .str [49], .str [49], .str [49], .str [49]], .int .i64 0]) := c_eq _ (lfrom_c (n := 20) (x := ([49], [50])) (y := ([49], [52])) (l := ([49], [49])) (bdt (by decide) (by decide) (by decide)) (bdt (by decide) (by decide) (by decide)) (bdt (by decide) (by decide) (by decide)) (by decide)) (by kernel_rfl)
theorem x_f3 : Called Tryz.prog 25 [.agg [.str [49], .str [50]], .agg [.str [48], .str [49]], .agg [.str [49], .str [49]]] (.tup [.agg [.str [], .str [], .str [], .str [], .str [], .str []], .int .i64 7]) := c_eq _ (lfrom_c (n := 20) (x := ([49], [50])) (y := ([48], [49])) (l := ([49], [49])) (bdt (by decide) (by decide) (by decide)) (bdt (by decide) (by decide) (by decide)) (bdt (by decide) (by decide) (by decide)) (by decide)) (by kernel_rfl)
theorem x_m1 : Called Tryz.prog 33 [.agg [.str [49], .str [49], .str [49], .str [49], .str [49], .str [49]], .agg [.str [48], .str [49], .str [49], .str [49], .str [51], .str [49]], .agg [.str [49], .str [50]]] (.tup [.agg [.str [49], .str [50], .str [49], .str [49], .str [50], .str [49]], .int .i64 0]) := c_eq _ (lmix_c (n := 20) (a := (([49], [49]), ([49], [49]), ([49], [49]))) (b := (([48], [49]), ([49], [49]), ([51], [49]))) (t := ([49], [50])) ⟨(bdt (by decide) (by decide) (by decide)), (bdt (by decide) (by decide) (by decide)), (bdt (by decide) (by decide) (by decide))⟩ ⟨(bdt (by decide) (by decide) (by decide)), (bdt (by decide) (by decide) (by decide)), (bdt (by decide) (by decide) (by decide))⟩ (bdt (by decide) (by decide) (by decide)) (by decide)) (by kernel_rfl)
theorem x_m2 : Called Tryz.prog 33 [.agg [.str [49], .str [49], .str [49], .str [49], .str [49], .str [49]], .agg [.str [48], .str [49], .str [49], .str [49], .str [51], .str [49]], .agg [.str [51], .str [50]]] (.tup [.agg [.str [], .str [], .str [], .str [], .str [], .str []], .int .i64 2]) := c_eq _ (lmix_c (n := 20) (a := (([49], [49]), ([49], [49]), ([49], [49]))) (b := (([48], [49]), ([49], [49]), ([51], [49]))) (t := ([51], [50])) ⟨(bdt (by decide) (by decide) (by decide)), (bdt (by decide) (by decide) (by decide)), (bdt (by decide) (by decide) (by decide))⟩ ⟨(bdt (by decide) (by decide) (by decide)), (bdt (by decide) (by decide) (by decide)), (bdt (by decide) (by decide) (by decide))⟩ (bdt (by decide) (by decide) (by decide)) (by decide)) (by kernel_rfl)
end Go.Proofs.YtfilfmadapjajaaGreatDoor
end
section
namespace Go.Proofs.YtfilfmadapjajaaGreatDoor
open Go Go.V Go.Nb
theorem law_is (a b c d e f : List UInt8) : Called Tryz.prog 39 [.agg [.str a, .str b, .str c, .str d, .str e, .str f]] (.fn 78 [] [.ref [.str a, .str b, .str c, .str d, .str e, .str f]]) := by
  refine called_of_run tbOk 6 ⟨Tryz.func39, rfl, rfl, Nat.le_of_ble_eq_true rfl⟩ ?_
  (conv => whnf)
  refine V.st ?_
  exact Fin.of rfl
theorem law_fails (e : Int) : Called Tryz.prog 41 [.int .i64 e] (.fn 79 [] [.ref [.int .i64 e]]) := by
  refine called_of_run tbOk 6 ⟨Tryz.func41, rfl, rfl, Nat.le_of_ble_eq_true rfl⟩ ?_
  (conv => whnf)
  refine V.st ?_
  exact Fin.of rfl
theorem is_yes (a b c d e f : List UInt8) : Called Tryz.prog 78 [.agg [.str a, .str b, .str c, .str d, .str e, .str f], .int .i64 0, .ref [.str a, .str b, .str c, .str d, .str e, .str f]] (.bool true) := by
  refine called_of_run tbOk 6 ⟨Tryz.func78, rfl, rfl, Nat.le_of_ble_eq_true rfl⟩ ?_
  (conv => whnf)
  refine V.st ?_
  exact Fin.of (by simp)
theorem fails_yes (e : Int) : Called Tryz.prog 79 [.agg [.str [], .str [], .str [], .str [], .str [], .str []], .int .i64 e, .ref [.int .i64 e]] (.bool true) := by
  refine called_of_run tbOk 6 ⟨Tryz.func79, rfl, rfl, Nat.le_of_ble_eq_true rfl⟩ ?_
  (conv => whnf)
  refine V.st ?_
  exact Fin.of (by simp)
theorem dec_refl (l : List UInt8) [Decidable (l = l)] : decide (l = l) = true := decide_eq_true rfl
theorem dec_reflz (n : Int) [Decidable (n = n)] : decide (n = n) = true := decide_eq_true rfl
theorem works_c : Called Tryz.prog 11 [] (.bool true) := by
  refine called_of_run tbOk 6 ⟨Tryz.func11, rfl, rfl, Nat.le_of_ble_eq_true rfl⟩ ?_
  (conv => whnf)
  (conv => whnf)
  (try simp only [Nat.zero_add])
  repeat ((first | refine V.s1 ?_ | ((try ((with_reducible refine .ext ?_); (conv => whnf); (try simp only [Nat.zero_add]))); (with_reducible refine call_intro (r := ?_) ?_ ?_); rotate_left; (focus (first | exact (o_332_1000) | exact (o_3_10) | exact (o_1858_10000) | exact (o_1_3) | exact (o_1_1) | exact (o_1_2) | exact (o_1_4) | exact (o_0_1) | exact (o_2_1) | exact (o_345741_1000000) | exact (o_358666152757_1000000000000) | exact (o_552033_100) | exact (o_3_2) | exact (t_1_2_1_1) | exact (t_0_0_0_1) | exact (t_1_1_1_1) | exact (t_2_1_1_1) | exact (t_1_2_4_2) | exact (t_0_1_3_1) | exact (x_to1) | exact (x_to2) | exact (x_day1) | exact (x_day2) | exact (x_temp1) | exact (x_temp2) | exact (x_w7) | exact (x_w0) | exact (x_w8) | exact (x_f1) | exact (x_f2) | exact (x_f3) | exact (x_m1) | exact (x_m2))); (conv => whnf))); (try simp only [Nat.zero_add]))
  refine ⟨(.ev (.cons 0 [] (.ev (.cons 1 [] (.ev (.cons 2 [] (.take 3 (.take 4 (.ev (.cons 5 [] (.take 6 (.ev (.cons 7 [] (.ev (.cons 8 [] (.take 9 (.take 10 (.ev (.cons 11 [] (.take 12 (.take 13 (.ev (.cons 14 [] (.ev (.cons 15 [] (.take 16 (.take 17 (.ev (.cons 18 [] (.take 19 (.take 20 (.take 23 (.take 24 (.take 25 (.ev (.cons 21 [25, 24, 23] (.ev (.cons 22 [25, 24, 23] (.ev (.cons 26 [] (.take 27 (.take 28 (.ev (.cons 29 [] (.take 30 (.take 31 (.take 36 (.ev (.cons 32 [36] (.ev (.cons 33 [36] (.ev (.cons 34 [36] (.ev (.cons 35 [36] (.ev (.cons 37 [] (.take 38 (.take 39 (.ev (.cons 40 [] (.take 41 (.take 42 (.take 46 (.ev (.cons 43 [46] (.ev (.cons 44 [46] (.ev (.cons 45 [46] (.ev (.cons 47 [] (.take 48 (.take 49 (.ev (.cons 50 [] (.take 51 (.take 52 (.take 53 (.take 54 (.take 55 (.take 56 (.take 57 (.ev (.cons 58 [57] (.take 59 (.take 60 (.take 61 (.take 62 (.ev (.cons 63 [62] (.take 64 (.take 65 (.take 66 (.take 67 (.ev (.cons 68 [67] (.take 69 (.take 70 (.take 71 (.take 72 (.take 73 (.take 74 (.take 75 (.take 76 (.take 77 (.take 78 (.take 79 (.take 80 (.ev (.cons 81 [80] (.take 82 (.take 83 (.take 84 (.take 85 (.ev (.cons 86 [85] (.take 87 (.take 88 (.take 89 (.take 90 (.take 91 (.take 92 (.take 93 (.take 94 (.take 95 (.take 96 (.take 97 (.take 98 (.ev (.cons 99 [98] (.take 100 (.take 101 (.take 102 (.take 103 (.take 104 (.take 105 (.take 106 (.ev (.cons 107 [] (.ev (.cons 108 [] (.ev (.cons 109 [] (.ev (.cons 110 [] (.ev (.cons 111 [] (.ev (.cons 112 [] (.take 113 (.take 114 (.ev (.cons 115 [] (.take 116 (.take 117 (.ev (.cons 118 [] (.ev (.cons 119 [] (.ev (.cons 120 [] (.ev (.cons 121 [] (.ev (.cons 122 [] (.take 123 (.take 124 (.ev (.cons 125 [] (.take 126 (.take 127 (.done))) (.nil))))) (.nil))) (.nil))) (.nil))) (.nil))) (.nil))))) (.nil))))) (.nil))) (.nil))) (.nil))) (.nil))) (.nil))) (.nil)))))))))) (.nil))))))))))))))) (.nil))))))) (.nil))))))))))))))) (.nil))))))) (.nil))))))) (.nil)))))))))) (.nil))))) (.nil))) (.nil))) (.nil))) (.nil)))))) (.nil))))) (.nil))) (.nil))) (.nil))) (.nil))) (.nil)))))) (.nil))))) (.nil))) (.nil))) (.nil)))))))) (.nil))))) (.nil))) (.nil))))) (.nil))))) (.nil))) (.nil)))) (.nil))))) (.nil))) (.nil))) (.nil))), [], ⟨by kernel_rfl, by kernel_rfl, by kernel_rfl, by kernel_rfl⟩, ?_⟩
  refine drw_meet [(0, .bool true)] [] ?_ ?_
  · (conv => whnf); (try simp only [Nat.zero_add, dec_refl, dec_reflz, Bool.and_true, Bool.and_self, Bool.true_and])
    repeat' (first | exact V.wk | ((first | refine V.s1 ?_ | ((with_reducible refine recheck_and ?_ ?_); (focus ((conv => whnf); (try simp only [Nat.zero_add, dec_refl, dec_reflz, Bool.and_true, Bool.and_self, Bool.true_and]); (repeat (refine V.s1 ?_; (try simp only [Nat.zero_add, dec_refl, dec_reflz, Bool.and_true, Bool.and_self, Bool.true_and]))); exact ⟨rfl⟩)); (conv => whnf)) | ((try ((with_reducible refine .ext ?_); (conv => whnf); (try simp only [Nat.zero_add, dec_refl, dec_reflz, Bool.and_true, Bool.and_self, Bool.true_and]))); (with_reducible refine call_intro (r := ?_) ?_ ?_); rotate_left; (focus (first | exact (law_is _ _ _ _ _ _) | exact (law_fails _) | exact (is_yes _ _ _ _ _ _) | exact (fails_yes _) | exact (o_332_1000) | exact (o_3_10) | exact (o_1858_10000) | exact (o_1_3) | exact (o_1_1) | exact (o_1_2) | exact (o_1_4) | exact (o_0_1) | exact (o_2_1) | exact (o_345741_1000000) | exact (o_358666152757_1000000000000) | exact (o_552033_100) | exact (o_3_2) | exact (t_1_2_1_1) | exact (t_0_0_0_1) | exact (t_1_1_1_1) | exact (t_2_1_1_1) | exact (t_1_2_4_2) | exact (t_0_1_3_1) | exact (x_to1) | exact (x_to2) | exact (x_day1) | exact (x_day2) | exact (x_temp1) | exact (x_temp2) | exact (x_w7) | exact (x_w0) | exact (x_w8) | exact (x_f1) | exact (x_f2) | exact (x_f3) | exact (x_m1) | exact (x_m2))); (conv => whnf))); (try simp only [Nat.zero_add, dec_refl, dec_reflz, Bool.and_true, Bool.and_self, Bool.true_and])) | (refine And.intro ?_ ?_ <;> (conv => whnf); (try simp only [Nat.zero_add, dec_refl, dec_reflz, Bool.and_true, Bool.and_self, Bool.true_and])))
  (conv => whnf)
  (try simp only [Nat.zero_add])
  repeat ((first | refine V.s1 ?_); (try simp only [Nat.zero_add]))
  exact Fin.of rfl
end Go.Proofs.YtfilfmadapjajaaGreatDoor
end
section
namespace Go.Proofs.YtfilfmadapjajaaGreatDoor
open Go Go.V Go.Nb
theorem mix_both (x y a b : Rat) : mixQ y a (mixQ x a b) = mixQ (x * y) a b := by unfold mixQ; grind
theorem mix_rest (x a b : Rat) : mixQ (1 - x) b a = mixQ x a b := by unfold mixQ; grind
theorem mix_zero (a b : Rat) : mixQ 0 a b = a := by unfold mixQ; grind
theorem mix_one (a b : Rat) : mixQ 1 a b = b := by unfold mixQ; grind
theorem mix_nonneg {x a b : Rat} (h0 : 0 ≤ x) (h1 : x ≤ 1) (ha : 0 ≤ a) (hb : 0 ≤ b) : 0 ≤ mixQ x a b := by
  unfold mixQ
  have h2 : 0 ≤ 1 - x := by grind
  have h3 := Rat.mul_nonneg h2 ha
  have h4 := Rat.mul_nonneg h0 hb
  grind
theorem line_eq (t a0 a1 a2 b0 b1 b2 : Rat) (hA : a0 + a1 + a2 ≠ 0) (hB : b0 + b1 + b2 ≠ 0) (hM : mixQ t a0 b0 + mixQ t a1 b1 + mixQ t a2 b2 ≠ 0) :
    (mixQ t a0 b0 / (mixQ t a0 b0 + mixQ t a1 b1 + mixQ t a2 b2) - a0 / (a0 + a1 + a2)) * (b1 / (b0 + b1 + b2) - a1 / (a0 + a1 + a2)) = (b0 / (b0 + b1 + b2) - a0 / (a0 + a1 + a2)) * (mixQ t a1 b1 / (mixQ t a0 b0 + mixQ t a1 b1 + mixQ t a2 b2) - a1 / (a0 + a1 + a2)) := by
  unfold mixQ at *
  grind
theorem part_eq (t a b sA sB sM : Rat) (hA : sA ≠ 0) (hB : sB ≠ 0) (hM : sM ≠ 0) (hs : sM = mixQ t sA sB) : mixQ t a b / sM - a / sA = (t * sB * sM⁻¹) * (b / sB - a / sA) := by
  unfold mixQ at *
  grind
theorem part_eq2 (t a b sA sB sM : Rat) (hA : sA ≠ 0) (hB : sB ≠ 0) (hM : sM ≠ 0) (hs : sM = mixQ t sA sB) : b / sB - mixQ t a b / sM = ((1 - t) * sA * sM⁻¹) * (b / sB - a / sA) := by
  unfold mixQ at *
  grind
theorem sum_mix (t a0 a1 a2 b0 b1 b2 : Rat) : mixQ t a0 b0 + mixQ t a1 b1 + mixQ t a2 b2 = mixQ t (a0 + a1 + a2) (b0 + b1 + b2) := by unfold mixQ; grind
theorem inv_nonneg' {q : Rat} (h : 0 ≤ q) : 0 ≤ q⁻¹ := by
  by_cases h0 : q = 0
  · subst h0; simp
  · have h2 : 0 < q := by grind
    have := Rat.inv_pos.2 h2
    grind
theorem mul_sgn {k l d : Rat} (hk : 0 ≤ k) (hl : 0 ≤ l) : 0 ≤ k * d * (l * d) := by
  have h1 := Rat.mul_nonneg hk hl
  have h2 : 0 ≤ d * d := by
    by_cases h : 0 ≤ d
    · exact Rat.mul_nonneg h h
    · have h3 : 0 ≤ -d := by grind
      have h4 := Rat.mul_nonneg h3 h3
      grind
  have h3 := Rat.mul_nonneg h1 h2
  grind
theorem between {p q r k l : Rat} (hk : 0 ≤ k) (hl : 0 ≤ l) (h1 : q - p = k * (r - p)) (h2 : r - q = l * (r - p)) : 0 ≤ ordQ p q * ordQ q r := by
  have h3 := mul_sgn (d := r - p) hk hl
  rw [← h1, ← h2] at h3
  unfold ordQ
  by_cases a : p < q
  · by_cases b : q < r
    · simp [a, b]
    · by_cases c : q = r
      · simp [c]
      · exfalso
        have e1 : 0 < q - p := by grind
        have e2 : 0 < q - r := by grind
        have := Rat.mul_pos e1 e2
        grind
  · by_cases a2 : p = q
    · simp [a2]
    · by_cases b : q < r
      · exfalso
        have e1 : 0 < p - q := by grind
        have e2 : 0 < r - q := by grind
        have := Rat.mul_pos e1 e2
        grind
      · by_cases c : q = r
        · simp [c]
        · simp [a, a2, b, c]
theorem back0 (a0 a1 a2 : Rat) (h1 : a1 ≠ 0) (hs : a0 + a1 + a2 ≠ 0) : a0 / (a0 + a1 + a2) * a1 / (a1 / (a0 + a1 + a2)) = a0 ∧ (1 - a0 / (a0 + a1 + a2) - a1 / (a0 + a1 + a2)) * a1 / (a1 / (a0 + a1 + a2)) = a2 := by
  constructor
  · grind
  · grind
theorem wsum (x y : Rat) (hy : y ≠ 0) : x * 1 / y + 1 + (1 - x - y) * 1 / y = 1 / y := by grind
theorem wxy (x y : Rat) (hy : y ≠ 0) : x * 1 / y / (1 / y) = x ∧ 1 / (1 / y) = y := by constructor <;> grind
theorem parab (p b c : Rat) : -3 * p ^ 2 + b * p + -c = b * p - 3 * (p * p) - c := by grind
theorem days_eq (t a b c d : Rat) (h : t ≠ 0) : d + c / t + b / (t * t) - a / (t * (t * t)) = -a * (1/t)^3 + b * (1/t)^2 + c * (1/t) + d := by grind
end Go.Proofs.YtfilfmadapjajaaGreatDoor
end
section
namespace Go.Proofs.YtfilfmadapjajaaGreatDoor
open Go Go.V Go.Nb
theorem chk3_q {n : Nat} {x y z : Rat} (hx : Fq n x) (hy : Fq n y) (hz : Fq n z) (h0 : 0 < n ∧ n ≤ 600) (px : 0 ≤ x) (py : 0 ≤ y) (pz : 0 ≤ z) : chk3 (xT x) (xT y) (xT z) = 0 := by
  have a := xT_ok hx h0
  have b := xT_ok hy h0
  have c := xT_ok hz h0
  unfold chk3
  rw [a.1, b.1, c.1, a.2, b.2, c.2, if_pos (show (true && true && true) = true from rfl), if_neg]
  have e1 := Rat.num_nonneg.2 px
  have e2 := Rat.num_nonneg.2 py
  have e3 := Rat.num_nonneg.2 pz
  omega
theorem lmix_q {n : Nat} {a0 a1 a2 b0 b1 b2 t : Rat} (ha : Fq n a0 ∧ Fq n a1 ∧ Fq n a2) (hb : Fq n b0 ∧ Fq n b1 ∧ Fq n b2) (ht : Fq n t) (h0 : 0 < n ∧ n ≤ 100) (pa : 0 ≤ a0 ∧ 0 ≤ a1 ∧ 0 ≤ a2) (pb : 0 ≤ b0 ∧ 0 ≤ b1 ∧ 0 ≤ b2) (pt : 0 ≤ t ∧ t ≤ 1) :
    Called Tryz.prog 33 [triQ a0 a1 a2, triQ b0 b1 b2, frT t] (.tup [triQ (mixQ t a0 b0) (mixQ t a1 b1) (mixQ t a2 b2), .int .i64 0]) := by
  have k0 : 0 < n ∧ n ≤ 600 := ⟨h0.1, by omega⟩
  have c := lmix_c (n := n) (a := (xT a0, xT a1, xT a2)) (b := (xT b0, xT b1, xT b2)) (t := xT t) ⟨xT_bd ha.1 k0, xT_bd ha.2.1 k0, xT_bd ha.2.2 k0⟩ ⟨xT_bd hb.1 k0, xT_bd hb.2.1 k0, xT_bd hb.2.2 k0⟩ (xT_bd ht k0) h0
  have e1 := chk3_q ha.1 ha.2.1 ha.2.2 k0 pa.1 pa.2.1 pa.2.2
  have e2 := chk3_q hb.1 hb.2.1 hb.2.2 k0 pb.1 pb.2.1 pb.2.2
  have et := xT_ok ht k0
  have en := Rat.num_nonneg.2 pt.1
  unfold mixX at c
  dsimp only at c
  rw [if_pos e1, if_pos e2, et.1, if_pos rfl, et.2, if_neg (fun h => by
    rcases h with h | h
    · omega
    · exact absurd pt.2 (Rat.not_le.2 h)), (xT_ok ha.1 k0).2, (xT_ok ha.2.1 k0).2, (xT_ok ha.2.2 k0).2, (xT_ok hb.1 k0).2, (xT_ok hb.2.1 k0).2, (xT_ok hb.2.2 k0).2] at c
  exact c
def toQ (a0 a1 a2 : Rat) : D := if a0 + a1 + a2 = 0 then x3E noX noX noX 7 else .tup [frT (a0 / (a0 + a1 + a2)), frT (a1 / (a0 + a1 + a2)), frT a1, .int .i64 0]
theorem lto_q {n : Nat} {a0 a1 a2 : Rat} (ha : Fq n a0 ∧ Fq n a1 ∧ Fq n a2) (h0 : 0 < n ∧ n ≤ 100) (pa : 0 ≤ a0 ∧ 0 ≤ a1 ∧ 0 ≤ a2) : Called Tryz.prog 27 [triQ a0 a1 a2] (toQ a0 a1 a2) := by
  have k0 : 0 < n ∧ n ≤ 600 := ⟨h0.1, by omega⟩
  have c := lto_c (n := n) (x := xT a0) (y := xT a1) (z := xT a2) (xT_bd ha.1 k0) (xT_bd ha.2.1 k0) (xT_bd ha.2.2 k0) h0
  have e1 := chk3_q ha.1 ha.2.1 ha.2.2 k0 pa.1 pa.2.1 pa.2.2
  unfold toX at c
  rw [if_pos e1, (xT_ok ha.1 k0).2, (xT_ok ha.2.1 k0).2, (xT_ok ha.2.2 k0).2] at c
  unfold toQ
  by_cases g : a0 + a1 + a2 = 0
  · rw [if_pos g]
    rw [if_pos (Rat.num_eq_zero.2 g)] at c
    exact c
  · rw [if_neg g]
    rw [if_neg (fun h => g (Rat.num_eq_zero.1 h))] at c
    exact c
theorem lfrom_q {n : Nat} {x y l : Rat} (hx : Fq n x) (hy : Fq n y) (hl : Fq n l) (h0 : 0 < n ∧ n ≤ 100) (px : 0 ≤ x) (py : 0 ≤ y) (pl : 0 ≤ l) (p1 : x + y ≤ 1) :
    Called Tryz.prog 25 [frT x, frT y, frT l] (if y = 0 then triE no3 7 else .tup [triQ (x * l / y) l ((1 - x - y) * l / y), .int .i64 0]) := by
  have k0 : 0 < n ∧ n ≤ 600 := ⟨h0.1, by omega⟩
  have c := lfrom_c (n := n) (x := xT x) (y := xT y) (l := xT l) (xT_bd hx k0) (xT_bd hy k0) (xT_bd hl k0) h0
  have e1 := Rat.num_nonneg.2 px
  have e2 := Rat.num_nonneg.2 py
  have e3 := Rat.num_nonneg.2 pl
  unfold fromX at c
  rw [(xT_ok hx k0).1, (xT_ok hy k0).1, (xT_ok hl k0).1, if_pos (show (true && true && true) = true from rfl), (xT_ok hx k0).2, (xT_ok hy k0).2, (xT_ok hl k0).2, if_neg (fun h => by
    rcases h with h | h | h | h
    · omega
    · omega
    · omega
    · exact absurd p1 (Rat.not_le.2 h))] at c
  by_cases g : y = 0
  · rw [if_pos g]
    rw [if_pos (Rat.num_eq_zero.2 g)] at c
    exact c
  · rw [if_neg g]
    rw [if_neg (fun h => g (Rat.num_eq_zero.1 h))] at c
    exact c
theorem nn_divInt {n m : Int} (hn : 0 ≤ n) (hm : 0 < m) : 0 ≤ Rat.divInt n m := (Rat.divInt_nonneg_iff_of_pos_right hm).2 hn
theorem fq_colour {a : Int} (h : 0 ≤ a ∧ a ≤ 65535) : Fq 5 (Rat.divInt a 1000) := fq_divInt (d := 1000) (by omega) (by omega) (by omega)
theorem fq_share {n d : Int} (hd : 0 ≤ d ∧ d ≤ 255) : Fq 5 (shQ n d) := by
  have hb := shN_bd n d hd
  unfold shQ
  obtain ⟨m, hm⟩ : ∃ m : Nat, 1 + d = m := ⟨(1 + d).toNat, by omega⟩
  rw [hm] at hb ⊢
  exact fq_divInt (by omega) (by omega) (by omega)
theorem share_bd {n d : Int} (hd : 0 ≤ d ∧ d ≤ 255) : 0 ≤ shQ n d ∧ shQ n d ≤ 1 := by
  have hb := shN_bd n d hd
  unfold shQ
  refine ⟨nn_divInt hb.1 (by omega), ?_⟩
  have h1 : Rat.divInt (1 + d) (1 + d) = 1 := Rat.divInt_self' (by omega)
  have h2 : 0 ≤ Rat.divInt (1 + d - shN n d) (1 + d) := nn_divInt (by omega) (by omega)
  have h3 : Rat.divInt (1 + d - shN n d) (1 + d) + Rat.divInt (shN n d) (1 + d) = 1 := by
    rw [Rat.divInt_add_divInt _ _ (by omega) (by omega), ← h1, ← Int.add_mul, show 1 + d - shN n d + shN n d = 1 + d by omega]
    exact Rat.divInt_mul_right (by omega)
  grind
end Go.Proofs.YtfilfmadapjajaaGreatDoor
end
