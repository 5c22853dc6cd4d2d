/- What some functions of the program answer at values that mean given lists, texts and numbers, each proved of the program's own code: part 7. Conditions: those that each theorem names. -/
import Derived.Test.YtfilfmadapjajaaGreatDoorH4
import Derived.Test.YtfilfmadapjajaaGreatDoorH5
import Derived.Test.YtfilfmadapjajaaGreatDoorH6
set_option linter.unusedSimpArgs false
set_option linter.unusedVariables false
set_option maxHeartbeats 8000000
set_option maxRecDepth 100000
section
namespace Go.Proofs.YtfilfmadapjajaaGreatDoor
open Go Go.V Go.Nb
theorem rmix_no1 (a0 a1 b0 b1 c0 c1 e0 e1 f0 f1 g0 g1 t0 t1 : List UInt8) (z : Int) (hz : z ≠ 0) (ca : Called Tryz.prog 16 [.agg [.str a0, .str a1, .str b0, .str b1, .str c0, .str c1]] (.int .i64 z)) :
    Called Tryz.prog 34 [.agg [.str a0, .str a1, .str b0, .str b1, .str c0, .str c1], .agg [.str e0, .str e1, .str f0, .str f1, .str g0, .str g1], .agg [.str t0, .str t1]] (.tup [.agg [.str [], .str [], .str [], .str [], .str [], .str []], .int .i64 z]) := by
  refine called_of_run tbOk 6 ⟨Tryz.func34, rfl, rfl, Nat.le_of_ble_eq_true rfl⟩ ?_
  (conv => whnf)
  (conv => whnf)
  (try simp only [Nat.zero_add])
  repeat ((first | refine V.s1 ?_ | ((try ((with_reducible refine .ext ?_); (conv => whnf); (try simp only [Nat.zero_add]))); (with_reducible refine call_intro (r := ?_) ?_ ?_); rotate_left; (focus (first | exact (ca))); (conv => whnf))); (try simp only [Nat.zero_add]))
  refine Cnd.split (CondB.mk (fun hq => ?_) (fun hq => ?_))
  · (conv => whnf)
    (try simp only [Nat.zero_add])
    repeat ((first | refine V.s1 ?_); (try simp only [Nat.zero_add]))
    exact Fin.of rfl
  · exfalso
    simp at hq
    exact hz hq
theorem rmix_no2 (a0 a1 b0 b1 c0 c1 e0 e1 f0 f1 g0 g1 t0 t1 : List UInt8) (z : Int) (hz : z ≠ 0) (ca : Called Tryz.prog 16 [.agg [.str a0, .str a1, .str b0, .str b1, .str c0, .str c1]] (.int .i64 0)) (cb : Called Tryz.prog 16 [.agg [.str e0, .str e1, .str f0, .str f1, .str g0, .str g1]] (.int .i64 z)) :
    Called Tryz.prog 34 [.agg [.str a0, .str a1, .str b0, .str b1, .str c0, .str c1], .agg [.str e0, .str e1, .str f0, .str f1, .str g0, .str g1], .agg [.str t0, .str t1]] (.tup [.agg [.str [], .str [], .str [], .str [], .str [], .str []], .int .i64 z]) := by
  refine called_of_run tbOk 6 ⟨Tryz.func34, rfl, rfl, Nat.le_of_ble_eq_true rfl⟩ ?_
  (conv => whnf)
  (conv => whnf)
  (try simp only [Nat.zero_add])
  repeat ((first | refine V.s1 ?_ | ((try ((with_reducible refine .ext ?_); (conv => whnf); (try simp only [Nat.zero_add]))); (with_reducible refine call_intro (r := ?_) ?_ ?_); rotate_left; (focus (first | exact (ca) | exact (cb))); (conv => whnf))); (try simp only [Nat.zero_add]))
  refine Cnd.split (CondB.mk (fun hq => ?_) (fun hq => ?_))
  · (conv => whnf)
    (try simp only [Nat.zero_add])
    repeat ((first | refine V.s1 ?_); (try simp only [Nat.zero_add]))
    exact Fin.of rfl
  · exfalso
    simp at hq
    exact hz hq
theorem rmix_no3 (a0 a1 b0 b1 c0 c1 e0 e1 f0 f1 g0 g1 t0 t1 : List UInt8) (z : Int) (hz : z ≠ 0) (ca : Called Tryz.prog 16 [.agg [.str a0, .str a1, .str b0, .str b1, .str c0, .str c1]] (.int .i64 0)) (cb : Called Tryz.prog 16 [.agg [.str e0, .str e1, .str f0, .str f1, .str g0, .str g1]] (.int .i64 0)) (fr : Called Tryz.prog 46 [.slf 2 1 (fun j => List.take 2 (List.drop (j * 2) [.str t0, .str t1]))] (.int .i64 z)) :
    Called Tryz.prog 34 [.agg [.str a0, .str a1, .str b0, .str b1, .str c0, .str c1], .agg [.str e0, .str e1, .str f0, .str f1, .str g0, .str g1], .agg [.str t0, .str t1]] (.tup [.agg [.str [], .str [], .str [], .str [], .str [], .str []], .int .i64 z]) := by
  refine called_of_run tbOk 6 ⟨Tryz.func34, rfl, rfl, Nat.le_of_ble_eq_true rfl⟩ ?_
  (conv => whnf)
  (conv => whnf)
  (try simp only [Nat.zero_add])
  repeat ((first | refine V.s1 ?_ | ((try ((with_reducible refine .ext ?_); (conv => whnf); (try simp only [Nat.zero_add]))); (with_reducible refine call_intro (r := ?_) ?_ ?_); rotate_left; (focus (first | exact (ca) | exact (cb) | exact (fr))); (conv => whnf))); (try simp only [Nat.zero_add]))
  refine Cnd.split (CondB.mk (fun hq => ?_) (fun hq => ?_))
  · (conv => whnf)
    (try simp only [Nat.zero_add])
    repeat ((first | refine V.s1 ?_); (try simp only [Nat.zero_add]))
    exact Fin.of rfl
  · exfalso
    simp at hq
    exact hz hq
theorem rmix_out (a0 a1 b0 b1 c0 c1 e0 e1 f0 f1 g0 g1 t0 t1 : List UInt8) (u0 u1 r0 r1 : List UInt8) (gt gr : Int) (h : gt < 0 ∨ gr < 0) (ca : Called Tryz.prog 16 [.agg [.str a0, .str a1, .str b0, .str b1, .str c0, .str c1]] (.int .i64 0)) (cb : Called Tryz.prog 16 [.agg [.str e0, .str e1, .str f0, .str f1, .str g0, .str g1]] (.int .i64 0)) (fr : Called Tryz.prog 46 [.slf 2 1 (fun j => List.take 2 (List.drop (j * 2) [.str t0, .str t1]))] (.int .i64 0)) (o : Called Tryz.prog 42 [.int .i64 1, .int .i64 1] (.agg [.str u0, .str u1])) (sb : Called Tryz.prog 91 [.agg [.str u0, .str u1], .agg [.str t0, .str t1]] (.tup [.agg [.str r0, .str r1], .int .i64 0])) (st : Called Tryz.prog 47 [.agg [.str t0, .str t1]] (.int .i64 gt)) (sr : Called Tryz.prog 47 [.agg [.str r0, .str r1]] (.int .i64 gr)) :
    Called Tryz.prog 34 [.agg [.str a0, .str a1, .str b0, .str b1, .str c0, .str c1], .agg [.str e0, .str e1, .str f0, .str f1, .str g0, .str g1], .agg [.str t0, .str t1]] (.tup [.agg [.str [], .str [], .str [], .str [], .str [], .str []], .int .i64 2]) := by
  refine called_of_run tbOk 6 ⟨Tryz.func34, rfl, rfl, Nat.le_of_ble_eq_true rfl⟩ ?_
  (conv => whnf)
  (conv => whnf)
  (try simp only [Nat.zero_add])
  repeat ((first | refine V.s1 ?_ | ((try ((with_reducible refine .ext ?_); (conv => whnf); (try simp only [Nat.zero_add]))); (with_reducible refine call_intro (r := ?_) ?_ ?_); rotate_left; (focus (first | exact (ca) | exact (cb) | exact (fr))); (conv => whnf))); (try simp only [Nat.zero_add]))
  refine ⟨(.take 1 (.ev (.cons 0 [1] (.ev (.cons 2 [] (.ev (.cons 3 [] (.ev (.cons 4 [] (.done) (.nil))) (.nil))) (.cons 3 [1] (.ev (.cons 2 [] (.ev (.cons 4 [] (.done) (.nil))) (.nil))) (.nil)))) (.cons 3 [1] (.ev (.cons 0 [1] (.ev (.cons 2 [] (.ev (.cons 4 [] (.done) (.nil))) (.nil))) (.nil))) (.nil))))), [], ⟨by kernel_rfl, by kernel_rfl, by kernel_rfl, by kernel_rfl⟩, ?_⟩
  refine drw_meet [(12, .box 12 0)] [(12, .box [.str r0, .str r1]), (11, .box [.int .i64 0])] ?_ ?_
  · (conv => whnf); (try simp only [Nat.zero_add])
    repeat' (first | exact V.wk | ((first | refine V.s1 ?_ | ((with_reducible refine recheck_and ?_ ?_); (focus ((conv => whnf); (try simp only [Nat.zero_add]); (repeat (refine V.s1 ?_; (try simp only [Nat.zero_add]))); exact ⟨rfl⟩)); (conv => whnf)) | ((try ((with_reducible refine .ext ?_); (conv => whnf); (try simp only [Nat.zero_add]))); (with_reducible refine call_intro (r := ?_) ?_ ?_); rotate_left; (focus (first | exact (o) | exact (sb))); (conv => whnf)) | ((with_reducible refine .inl ?_); (conv => whnf); (first | refine ⟨0, _, _, ⟨Tryz.func57, rfl, rfl, Nat.le_of_ble_eq_true rfl⟩, ?_⟩ | refine ⟨0, _, _, ⟨Tryz.func92, rfl, rfl, Nat.le_of_ble_eq_true rfl⟩, ?_⟩); (conv => whnf))); (try simp only [Nat.zero_add])) | (refine And.intro ?_ ?_ <;> (conv => whnf); (try simp only [Nat.zero_add])))
  (conv => whnf)
  (try simp only [Nat.zero_add])
  repeat ((first | refine V.s1 ?_ | ((try ((with_reducible refine .ext ?_); (conv => whnf); (try simp only [Nat.zero_add]))); (with_reducible refine call_intro (r := ?_) ?_ ?_); rotate_left; (focus (first | exact (st) | exact (sr))); (conv => whnf))); (try simp only [Nat.zero_add]))
  refine Cnd.split (CondB.mk (fun hq => ?_) (fun hq => ?_))
  · (conv => whnf)
    (try simp only [Nat.zero_add])
    repeat ((first | refine V.s1 ?_); (try simp only [Nat.zero_add]))
    exact Fin.of rfl
  · exfalso
    simp at hq
    omega
theorem zZ42_0 : type_of% @Nat.zero_add ∧ type_of% @tn0 ∧ type_of% @tn1 ∧ type_of% @tn2 := ⟨@Nat.zero_add, @tn0, @tn1, @tn2⟩
theorem rmix_ok (a0 a1 b0 b1 c0 c1 e0 e1 f0 f1 g0 g1 t0 t1 : List UInt8) (u0 u1 r0 r1 x0 x1 y0 y1 z0 z1 i00 i01 i10 i11 i20 i21 j00 j01 j10 j11 j20 j21 : List UInt8) (gt gr : Int) (h : ¬ gt < 0 ∧ ¬ gr < 0) (ca : Called Tryz.prog 16 [.agg [.str a0, .str a1, .str b0, .str b1, .str c0, .str c1]] (.int .i64 0)) (cb : Called Tryz.prog 16 [.agg [.str e0, .str e1, .str f0, .str f1, .str g0, .str g1]] (.int .i64 0)) (fr : Called Tryz.prog 46 [.slf 2 1 (fun j => List.take 2 (List.drop (j * 2) [.str t0, .str t1]))] (.int .i64 0)) (o : Called Tryz.prog 42 [.int .i64 1, .int .i64 1] (.agg [.str u0, .str u1])) (sb : Called Tryz.prog 91 [.agg [.str u0, .str u1], .agg [.str t0, .str t1]] (.tup [.agg [.str r0, .str r1], .int .i64 0])) (st : Called Tryz.prog 47 [.agg [.str t0, .str t1]] (.int .i64 gt)) (sr : Called Tryz.prog 47 [.agg [.str r0, .str r1]] (.int .i64 gr))
    (m0 : Called Tryz.prog 95 [.agg [.str r0, .str r1], .agg [.str a0, .str a1]] (.tup [.agg [.str i00, .str i01], .int .i64 0])) (n0 : Called Tryz.prog 95 [.agg [.str t0, .str t1], .agg [.str e0, .str e1]] (.tup [.agg [.str j00, .str j01], .int .i64 0])) (s0 : Called Tryz.prog 93 [.agg [.str i00, .str i01], .agg [.str j00, .str j01]] (.tup [.agg [.str x0, .str x1], .int .i64 0]))
    (m1 : Called Tryz.prog 95 [.agg [.str r0, .str r1], .agg [.str b0, .str b1]] (.tup [.agg [.str i10, .str i11], .int .i64 0])) (n1 : Called Tryz.prog 95 [.agg [.str t0, .str t1], .agg [.str f0, .str f1]] (.tup [.agg [.str j10, .str j11], .int .i64 0])) (s1 : Called Tryz.prog 93 [.agg [.str i10, .str i11], .agg [.str j10, .str j11]] (.tup [.agg [.str y0, .str y1], .int .i64 0]))
    (m2 : Called Tryz.prog 95 [.agg [.str r0, .str r1], .agg [.str c0, .str c1]] (.tup [.agg [.str i20, .str i21], .int .i64 0])) (n2 : Called Tryz.prog 95 [.agg [.str t0, .str t1], .agg [.str g0, .str g1]] (.tup [.agg [.str j20, .str j21], .int .i64 0])) (s2 : Called Tryz.prog 93 [.agg [.str i20, .str i21], .agg [.str j20, .str j21]] (.tup [.agg [.str z0, .str z1], .int .i64 0])) :
    Called Tryz.prog 34 [.agg [.str a0, .str a1, .str b0, .str b1, .str c0, .str c1], .agg [.str e0, .str e1, .str f0, .str f1, .str g0, .str g1], .agg [.str t0, .str t1]] (.tup [.agg [.str x0, .str x1, .str y0, .str y1, .str z0, .str z1], .int .i64 0]) := by
  refine called_of_run tbOk 6 ⟨Tryz.func34, rfl, rfl, Nat.le_of_ble_eq_true rfl⟩ ?_
  (conv => whnf)
  (conv => whnf)
  (try simp only [Nat.zero_add])
  repeat ((first | refine V.s1 ?_ | ((try ((with_reducible refine .ext ?_); (conv => whnf); (try simp only [Nat.zero_add]))); (with_reducible refine call_intro (r := ?_) ?_ ?_); rotate_left; (focus (first | exact (ca) | exact (cb) | exact (fr))); (conv => whnf))); (try simp only [Nat.zero_add]))
  refine ⟨(.take 1 (.ev (.cons 0 [1] (.ev (.cons 2 [] (.ev (.cons 3 [] (.ev (.cons 4 [] (.done) (.nil))) (.nil))) (.cons 3 [1] (.ev (.cons 2 [] (.ev (.cons 4 [] (.done) (.nil))) (.nil))) (.nil)))) (.cons 3 [1] (.ev (.cons 0 [1] (.ev (.cons 2 [] (.ev (.cons 4 [] (.done) (.nil))) (.nil))) (.nil))) (.nil))))), [], ⟨by kernel_rfl, by kernel_rfl, by kernel_rfl, by kernel_rfl⟩, ?_⟩
  refine drw_meet [(12, .box 12 0)] [(12, .box [.str r0, .str r1]), (11, .box [.int .i64 0])] ?_ ?_
  · (conv => whnf); (try simp only [Nat.zero_add])
    repeat' (first | exact V.wk | ((first | refine V.s1 ?_ | ((with_reducible refine recheck_and ?_ ?_); (focus ((conv => whnf); (try simp only [Nat.zero_add]); (repeat (refine V.s1 ?_; (try simp only [Nat.zero_add]))); exact ⟨rfl⟩)); (conv => whnf)) | ((try ((with_reducible refine .ext ?_); (conv => whnf); (try simp only [Nat.zero_add]))); (with_reducible refine call_intro (r := ?_) ?_ ?_); rotate_left; (focus (first | exact (o) | exact (sb))); (conv => whnf)) | ((with_reducible refine .inl ?_); (conv => whnf); (first | refine ⟨0, _, _, ⟨Tryz.func57, rfl, rfl, Nat.le_of_ble_eq_true rfl⟩, ?_⟩ | refine ⟨0, _, _, ⟨Tryz.func92, rfl, rfl, Nat.le_of_ble_eq_true rfl⟩, ?_⟩); (conv => whnf))); (try simp only [Nat.zero_add])) | (refine And.intro ?_ ?_ <;> (conv => whnf); (try simp only [Nat.zero_add])))
  (conv => whnf)
  (try simp only [Nat.zero_add])
  repeat ((first | refine V.s1 ?_ | ((try ((with_reducible refine .ext ?_); (conv => whnf); (try simp only [Nat.zero_add]))); (with_reducible refine call_intro (r := ?_) ?_ ?_); rotate_left; (focus (first | exact (st) | exact (sr))); (conv => whnf))); (try simp only [Nat.zero_add]))
  refine Cnd.split (CondB.mk (fun hq => ?_) (fun hq => ?_))
  · exfalso
    simp at hq
    omega
  (conv => whnf)
  (try simp only [Nat.zero_add])
  repeat ((first | refine V.s1 ?_); (try simp only [Nat.zero_add]))
  refine lp_any (0) (fun k => k ≤ 3) (fun k => 3 - k) (fun k => [(14, .int .i64 k)]) (fun k => [(13, .box (mxS x0 x1 y0 y1 z0 z1 k)), (11, .box [.int .i64 0])]) ?_ ?_ ?_
  · exact V.wk
  · exact Nat.zero_le _
  intro k hk
  have hk4 : k = 0 ∨ k = 1 ∨ k = 2 ∨ k = 3 := by omega
  rcases hk4 with e | e | e | e
  all_goals subst e
  · simp only [k0, mxS]
    (conv => whnf)
    (try simp only [zZ42_0])
    repeat ((first | refine V.s1 ?_); (try simp only [zZ42_0]))
    refine ⟨(.take 0 (.take 1 (.take 2 (.take 3 (.take 4 (.take 6 (.take 7 (.take 8 (.take 9 (.ev (.cons 5 [9, 8, 7, 6, 0] (.ev (.cons 10 [0] (.ev (.cons 11 [0] (.take 12 (.ev (.cons 13 [] (.done) (.nil)))) (.nil))) (.nil))) (.nil)))))))))))), [], ⟨by kernel_rfl, by kernel_rfl, by kernel_rfl, by kernel_rfl⟩, ?_⟩
    refine drw_meet [] [(13, .box (mxS x0 x1 y0 y1 z0 z1 1)), (11, .box [.int .i64 0])] ?_ ?_
    · (conv => whnf); (try simp only [zZ42_0])
      repeat' (first | exact V.wk | ((first | refine V.s1 ?_ | ((with_reducible refine recheck_and ?_ ?_); (focus ((conv => whnf); (try simp only [zZ42_0]); (repeat (refine V.s1 ?_; (try simp only [zZ42_0]))); exact ⟨rfl⟩)); (conv => whnf)) | ((try ((with_reducible refine .ext ?_); (conv => whnf); (try simp only [zZ42_0]))); (with_reducible refine call_intro (r := ?_) ?_ ?_); rotate_left; (focus (first | exact (m0) | exact (n0) | exact (s0))); (conv => whnf)) | ((with_reducible refine .inl ?_); (conv => whnf); (first | refine ⟨0, _, _, ⟨Tryz.func60, rfl, rfl, Nat.le_of_ble_eq_true rfl⟩, ?_⟩ | refine ⟨0, _, _, ⟨Tryz.func58, rfl, rfl, Nat.le_of_ble_eq_true rfl⟩, ?_⟩ | refine ⟨0, _, _, ⟨Tryz.func92, rfl, rfl, Nat.le_of_ble_eq_true rfl⟩, ?_⟩); (conv => whnf))); (try simp only [zZ42_0])) | (refine And.intro ?_ ?_ <;> (conv => whnf); (try simp only [zZ42_0])))
    (conv => whnf)
    (try simp only [zZ42_0])
    repeat ((first | refine V.s1 ?_); (try simp only [zZ42_0]))
    exact ⟨1, by omega, by omega, V.wk⟩
  · simp only [k1, mxS]
    (conv => whnf)
    (try simp only [zZ42_0])
    repeat ((first | refine V.s1 ?_); (try simp only [zZ42_0]))
    refine ⟨(.take 0 (.take 1 (.take 2 (.take 3 (.take 4 (.take 6 (.take 7 (.take 8 (.take 9 (.ev (.cons 5 [9, 8, 7, 6, 0] (.ev (.cons 10 [0] (.ev (.cons 11 [0] (.take 12 (.ev (.cons 13 [] (.done) (.nil)))) (.nil))) (.nil))) (.nil)))))))))))), [], ⟨by kernel_rfl, by kernel_rfl, by kernel_rfl, by kernel_rfl⟩, ?_⟩
    refine drw_meet [] [(13, .box (mxS x0 x1 y0 y1 z0 z1 2)), (11, .box [.int .i64 0])] ?_ ?_
    · (conv => whnf); (try simp only [zZ42_0])
      repeat' (first | exact V.wk | ((first | refine V.s1 ?_ | ((with_reducible refine recheck_and ?_ ?_); (focus ((conv => whnf); (try simp only [zZ42_0]); (repeat (refine V.s1 ?_; (try simp only [zZ42_0]))); exact ⟨rfl⟩)); (conv => whnf)) | ((try ((with_reducible refine .ext ?_); (conv => whnf); (try simp only [zZ42_0]))); (with_reducible refine call_intro (r := ?_) ?_ ?_); rotate_left; (focus (first | exact (m1) | exact (n1) | exact (s1))); (conv => whnf)) | ((with_reducible refine .inl ?_); (conv => whnf); (first | refine ⟨0, _, _, ⟨Tryz.func60, rfl, rfl, Nat.le_of_ble_eq_true rfl⟩, ?_⟩ | refine ⟨0, _, _, ⟨Tryz.func58, rfl, rfl, Nat.le_of_ble_eq_true rfl⟩, ?_⟩ | refine ⟨0, _, _, ⟨Tryz.func92, rfl, rfl, Nat.le_of_ble_eq_true rfl⟩, ?_⟩); (conv => whnf))); (try simp only [zZ42_0])) | (refine And.intro ?_ ?_ <;> (conv => whnf); (try simp only [zZ42_0])))
    (conv => whnf)
    (try simp only [zZ42_0])
    repeat ((first | refine V.s1 ?_); (try simp only [zZ42_0]))
    exact ⟨2, by omega, by omega, V.wk⟩
  · simp only [k2, mxS]
    (conv => whnf)
    (try simp only [zZ42_0])
    repeat ((first | refine V.s1 ?_); (try simp only [zZ42_0]))
    refine ⟨(.take 0 (.take 1 (.take 2 (.take 3 (.take 4 (.take 6 (.take 7 (.take 8 (.take 9 (.ev (.cons 5 [9, 8, 7, 6, 0] (.ev (.cons 10 [0] (.ev (.cons 11 [0] (.take 12 (.ev (.cons 13 [] (.done) (.nil)))) (.nil))) (.nil))) (.nil)))))))))))), [], ⟨by kernel_rfl, by kernel_rfl, by kernel_rfl, by kernel_rfl⟩, ?_⟩
    refine drw_meet [] [(13, .box (mxS x0 x1 y0 y1 z0 z1 3)), (11, .box [.int .i64 0])] ?_ ?_
    · (conv => whnf); (try simp only [zZ42_0])
      repeat' (first | exact V.wk | ((first | refine V.s1 ?_ | ((with_reducible refine recheck_and ?_ ?_); (focus ((conv => whnf); (try simp only [zZ42_0]); (repeat (refine V.s1 ?_; (try simp only [zZ42_0]))); exact ⟨rfl⟩)); (conv => whnf)) | ((try ((with_reducible refine .ext ?_); (conv => whnf); (try simp only [zZ42_0]))); (with_reducible refine call_intro (r := ?_) ?_ ?_); rotate_left; (focus (first | exact (m2) | exact (n2) | exact (s2))); (conv => whnf)) | ((with_reducible refine .inl ?_); (conv => whnf); (first | refine ⟨0, _, _, ⟨Tryz.func60, rfl, rfl, Nat.le_of_ble_eq_true rfl⟩, ?_⟩ | refine ⟨0, _, _, ⟨Tryz.func58, rfl, rfl, Nat.le_of_ble_eq_true rfl⟩, ?_⟩ | refine ⟨0, _, _, ⟨Tryz.func92, rfl, rfl, Nat.le_of_ble_eq_true rfl⟩, ?_⟩); (conv => whnf))); (try simp only [zZ42_0])) | (refine And.intro ?_ ?_ <;> (conv => whnf); (try simp only [zZ42_0])))
    (conv => whnf)
    (try simp only [zZ42_0])
    repeat ((first | refine V.s1 ?_); (try simp only [zZ42_0]))
    exact ⟨3, by omega, by omega, V.wk⟩
  · simp only [k3, mxS]
    (conv => whnf)
    (try simp only [Nat.zero_add])
    repeat ((first | refine V.s1 ?_); (try simp only [Nat.zero_add]))
    exact Fin.of rfl
end Go.Proofs.YtfilfmadapjajaaGreatDoor
end
section
namespace Go.Proofs.YtfilfmadapjajaaGreatDoor
open Go Go.V Go.Nb
theorem kk5 : ((5 : Nat) : Int) = 5 := rfl
theorem kk6 : ((6 : Nat) : Int) = 6 := rfl
theorem kt4 : (4 : Int).toNat = 4 := rfl
theorem kt5 : (5 : Int).toNat = 5 := rfl
theorem same_c (a0 a1 b0 b1 c0 c1 : List UInt8) (e : Int) : Called Tryz.prog 21 [.agg [.str a0, .str a1, .str b0, .str b1, .str c0, .str c1], .int .i64 e, .agg [.str a0, .str a1, .str b0, .str b1, .str c0, .str c1], .int .i64 e] (.bool true) := by
  refine called_of_run tbOk 6 ⟨Tryz.func21, rfl, rfl, Nat.le_of_ble_eq_true rfl⟩ ?_
  (conv => whnf)
  refine V.st ?_
  exact Fin.of (by simp)
def Bd3 (a0 a1 b0 b1 c0 c1 : List UInt8) : Prop := BdX 20 (a0, a1) ∧ BdX 20 (b0, b1) ∧ BdX 20 (c0, c1)
theorem xT_bd' {n : Nat} {q : Rat} (h : Fq n q) (h0 : 0 < n ∧ n ≤ 20) : BdX 20 (decZ q.num, dec q.den) := (xT_bd h ⟨h0.1, by omega⟩).mono (by omega)
theorem tri_x (a b c : Int) (ha : 0 ≤ a ∧ a ≤ 65535) (hb : 0 ≤ b ∧ b ≤ 65535) (hc : 0 ≤ c ∧ c ≤ 65535) : ∃ a0 a1 b0 b1 c0 c1, Called Tryz.prog 12 [.iarr .u16 [a, b, c]] (.agg [.str a0, .str a1, .str b0, .str b1, .str c0, .str c1]) ∧ Bd3 a0 a1 b0 b1 c0 c1 :=
  ⟨_, _, _, _, _, _, tri_c a b c ha hb hc, xT_bd' (fq_colour ha) (by omega), xT_bd' (fq_colour hb) (by omega), xT_bd' (fq_colour hc) (by omega)⟩
theorem white_x (a b c : Int) (ha : 0 ≤ a ∧ a ≤ 65535) (hb : 0 ≤ b ∧ b ≤ 65535) (hc : 0 ≤ c ∧ c ≤ 65535) : ∃ a0 a1 b0 b1 c0 c1, Called Tryz.prog 13 [.iarr .u16 [a, b, c]] (.agg [.str a0, .str a1, .str b0, .str b1, .str c0, .str c1]) ∧ Bd3 a0 a1 b0 b1 c0 c1 :=
  ⟨_, _, _, _, _, _, white_c a b c ha hb hc, xT_bd' (fq_colour (by omega)) (by omega), xT_bd' (fq_colour (by omega)) (by omega), xT_bd' (fq_colour (by omega)) (by omega)⟩
theorem fq_num {n d : Int} (hn : -32768 ≤ n ∧ n ≤ 32767) (hd : 0 ≤ d ∧ d ≤ 255) : Fq 5 (numQ n d) := by
  unfold numQ
  obtain ⟨m, hm⟩ : ∃ m : Nat, 1 + d = m := ⟨(1 + d).toNat, by omega⟩
  rw [hm]
  exact fq_divInt (by omega) (by omega) (by omega)
theorem num_x (n d : Int) (hn : -32768 ≤ n ∧ n ≤ 32767) (hd : 0 ≤ d ∧ d ≤ 255) : ∃ t0 t1, Called Tryz.prog 22 [.agg [.int .i16 n, .int .u8 d]] (.agg [.str t0, .str t1]) ∧ BdX 20 (t0, t1) :=
  ⟨_, _, numFrac_c n d hn hd, xT_bd' (fq_num hn hd) (by omega)⟩
theorem share_x (n d : Int) (hn : -32768 ≤ n ∧ n ≤ 32767) (hd : 0 ≤ d ∧ d ≤ 255) : ∃ t0 t1, Called Tryz.prog 23 [.agg [.int .i16 n, .int .u8 d]] (.agg [.str t0, .str t1]) ∧ BdX 20 (t0, t1) :=
  ⟨_, _, numShare_c n d hn hd, xT_bd' (fq_share hd) (by omega)⟩
theorem odd_x (s t : List UInt8) : ∃ t0 t1, Called Tryz.prog 24 [.agg [.str s, .str t]] (.agg [.str t0, .str t1]) ∧ BdX 20 (t0, t1) :=
  ⟨_, _, oddFrac_c s t, odd_bd (by simp; omega) (by simp; omega)⟩
theorem zZ49_0 : type_of% @Nat.zero_add ∧ type_of% @tn0 ∧ type_of% @tn1 ∧ type_of% @tn2 := ⟨@Nat.zero_add, @tn0, @tn1, @tn2⟩
theorem bend_x (k : Int) (s t a0 a1 b0 b1 c0 c1 : List UInt8) (hk : 0 ≤ k ∧ k ≤ 255) (h : Bd3 a0 a1 b0 b1 c0 c1) : ∃ u0 u1 v0 v1 w0 w1, Called Tryz.prog 14 [.agg [.int .u8 k, .str s, .str t], .agg [.str a0, .str a1, .str b0, .str b1, .str c0, .str c1]] (.agg [.str u0, .str u1, .str v0, .str v1, .str w0, .str w1]) ∧ Bd3 u0 u1 v0 v1 w0 w1 := by
  obtain ⟨t0, t1, c, b⟩ := odd_x s t
  have h3 : k % 3 = 0 ∨ k % 3 = 1 ∨ k % 3 = 2 := by omega
  rcases h3 with e | e | e
  · refine ⟨t0, t1, b0, b1, c0, c1, ?_, b, h.2.1, h.2.2⟩
    refine called_of_run tbOk 6 ⟨Tryz.func14, rfl, rfl, Nat.le_of_ble_eq_true rfl⟩ ?_
    (conv => whnf)
    (conv => whnf)
    (try simp only [Nat.zero_add])
    repeat ((first | refine V.s1 ?_); (try simp only [Nat.zero_add]))
    refine ⟨(.take 0 (.take 1 (.take 2 (.take 3 (.take 4 (.ev (.cons 5 [2, 1, 0] (.take 6 (.ev (.cons 7 [] (.done) (.nil)))) (.nil)))))))), [], ⟨by kernel_rfl, by kernel_rfl, by kernel_rfl, by kernel_rfl⟩, ?_⟩
    refine drw_meet [] [(3, .box [.str t0, .str t1, .str b0, .str b1, .str c0, .str c1])] ?_ ?_
    · (conv => whnf); (try simp only [zZ49_0, e])
      repeat' (first | exact V.wk | ((with_reducible refine And.intro ?_ draw_nil); (conv => whnf); (try simp only [zZ49_0, e])) | ((with_reducible first | refine draw_split ?_ ?_ | refine nds_split ?_ ?_) <;> (conv => whnf); (try simp only [zZ49_0, e])) | ((first | refine V.s1 ?_ | ((with_reducible refine recheck_and ?_ ?_); (focus ((conv => whnf); (try simp only [zZ49_0, e]); (repeat (refine V.s1 ?_; (try simp only [zZ49_0, e]))); exact ⟨rfl⟩)); (conv => whnf)) | ((try ((with_reducible refine .ext ?_); (conv => whnf); (try simp only [zZ49_0, e]))); (with_reducible refine call_intro (r := ?_) ?_ ?_); rotate_left; (focus (first | exact (c))); (conv => whnf))); (try simp only [zZ49_0, e])) | (refine And.intro ?_ ?_ <;> (conv => whnf); (try simp only [zZ49_0, e])))
    (conv => whnf)
    (try simp only [Nat.zero_add])
    repeat ((first | refine V.s1 ?_); (try simp only [Nat.zero_add]))
    exact Fin.of rfl
  · refine ⟨a0, a1, t0, t1, c0, c1, ?_, h.1, b, h.2.2⟩
    refine called_of_run tbOk 6 ⟨Tryz.func14, rfl, rfl, Nat.le_of_ble_eq_true rfl⟩ ?_
    (conv => whnf)
    (conv => whnf)
    (try simp only [Nat.zero_add])
    repeat ((first | refine V.s1 ?_); (try simp only [Nat.zero_add]))
    refine ⟨(.take 0 (.take 1 (.take 2 (.take 3 (.take 4 (.ev (.cons 5 [2, 1, 0] (.take 6 (.ev (.cons 7 [] (.done) (.nil)))) (.nil)))))))), [], ⟨by kernel_rfl, by kernel_rfl, by kernel_rfl, by kernel_rfl⟩, ?_⟩
    refine drw_meet [] [(3, .box [.str a0, .str a1, .str t0, .str t1, .str c0, .str c1])] ?_ ?_
    · (conv => whnf); (try simp only [zZ49_0, e])
      repeat' (first | exact V.wk | ((with_reducible refine And.intro ?_ draw_nil); (conv => whnf); (try simp only [zZ49_0, e])) | ((with_reducible first | refine draw_split ?_ ?_ | refine nds_split ?_ ?_) <;> (conv => whnf); (try simp only [zZ49_0, e])) | ((first | refine V.s1 ?_ | ((with_reducible refine recheck_and ?_ ?_); (focus ((conv => whnf); (try simp only [zZ49_0, e]); (repeat (refine V.s1 ?_; (try simp only [zZ49_0, e]))); exact ⟨rfl⟩)); (conv => whnf)) | ((try ((with_reducible refine .ext ?_); (conv => whnf); (try simp only [zZ49_0, e]))); (with_reducible refine call_intro (r := ?_) ?_ ?_); rotate_left; (focus (first | exact (c))); (conv => whnf))); (try simp only [zZ49_0, e])) | (refine And.intro ?_ ?_ <;> (conv => whnf); (try simp only [zZ49_0, e])))
    (conv => whnf)
    (try simp only [Nat.zero_add])
    repeat ((first | refine V.s1 ?_); (try simp only [Nat.zero_add]))
    exact Fin.of rfl
  · refine ⟨a0, a1, b0, b1, t0, t1, ?_, h.1, h.2.1, b⟩
    refine called_of_run tbOk 6 ⟨Tryz.func14, rfl, rfl, Nat.le_of_ble_eq_true rfl⟩ ?_
    (conv => whnf)
    (conv => whnf)
    (try simp only [Nat.zero_add])
    repeat ((first | refine V.s1 ?_); (try simp only [Nat.zero_add]))
    refine ⟨(.take 0 (.take 1 (.take 2 (.take 3 (.take 4 (.ev (.cons 5 [2, 1, 0] (.take 6 (.ev (.cons 7 [] (.done) (.nil)))) (.nil)))))))), [], ⟨by kernel_rfl, by kernel_rfl, by kernel_rfl, by kernel_rfl⟩, ?_⟩
    refine drw_meet [] [(3, .box [.str a0, .str a1, .str b0, .str b1, .str t0, .str t1])] ?_ ?_
    · (conv => whnf); (try simp only [zZ49_0, e])
      repeat' (first | exact V.wk | ((with_reducible refine And.intro ?_ draw_nil); (conv => whnf); (try simp only [zZ49_0, e])) | ((with_reducible first | refine draw_split ?_ ?_ | refine nds_split ?_ ?_) <;> (conv => whnf); (try simp only [zZ49_0, e])) | ((first | refine V.s1 ?_ | ((with_reducible refine recheck_and ?_ ?_); (focus ((conv => whnf); (try simp only [zZ49_0, e]); (repeat (refine V.s1 ?_; (try simp only [zZ49_0, e]))); exact ⟨rfl⟩)); (conv => whnf)) | ((try ((with_reducible refine .ext ?_); (conv => whnf); (try simp only [zZ49_0, e]))); (with_reducible refine call_intro (r := ?_) ?_ ?_); rotate_left; (focus (first | exact (c))); (conv => whnf))); (try simp only [zZ49_0, e])) | (refine And.intro ?_ ?_ <;> (conv => whnf); (try simp only [zZ49_0, e])))
    (conv => whnf)
    (try simp only [Nat.zero_add])
    repeat ((first | refine V.s1 ?_); (try simp only [Nat.zero_add]))
    exact Fin.of rfl
end Go.Proofs.YtfilfmadapjajaaGreatDoor
end
section
namespace Go.Proofs.YtfilfmadapjajaaGreatDoor
open Go Go.V Go.Nb
theorem rmix_c {n : Nat} {a b : Tx × Tx × Tx} {t : Tx} (ba : BdX n a.1 ∧ BdX n a.2.1 ∧ BdX n a.2.2) (bb : BdX n b.1 ∧ BdX n b.2.1 ∧ BdX n b.2.2) (bt : BdX n t) (h0 : 0 < n ∧ n ≤ 100) :
    Called Tryz.prog 34 [triD a.1 a.2.1 a.2.2, triD b.1 b.2.1 b.2.2, txD t] (mixX a b t) := by
  have ca := (chk_c ba.1 ba.2.1 ba.2.2 ⟨h0.1, by omega⟩).rc
  have cb := (chk_c bb.1 bb.2.1 bb.2.2 ⟨h0.1, by omega⟩).rc
  have f := rfracs1 t.1 t.2 _ (rcheck_c _ _ bt.1.1 bt.1.2)
  unfold mixX
  by_cases ha : chk3 a.1 a.2.1 a.2.2 = 0
  · rw [if_pos ha]
    have ca0 := ca
    rw [ha] at ca0
    by_cases hb : chk3 b.1 b.2.1 b.2.2 = 0
    · rw [if_pos hb]
      have cb0 := cb
      rw [hb] at cb0
      by_cases ht : okX t = true
      · rw [if_pos ht]
        have f0 := f
        rw [show okP t.1 t.2 = true from ht, if_pos rfl] at f0
        obtain ⟨ka0, ka1, ka2⟩ := chk3_ok ha
        obtain ⟨kb0, kb1, kb2⟩ := chk3_ok hb
        have qt := bt.2 ht
        have qa0 := ba.1.2 ka0
        have qa1 := ba.2.1.2 ka1
        have qa2 := ba.2.2.2 ka2
        have qb0 := bb.1.2 kb0
        have qb1 := bb.2.1.2 kb1
        have qb2 := bb.2.2.2 kb2
        have et := txD_q ht
        have ea0 := txD_q ka0
        have ea1 := txD_q ka1
        have ea2 := txD_q ka2
        have eb0 := txD_q kb0
        have eb1 := txD_q kb1
        have eb2 := txD_q kb2
        have r1 := r23of (n := 1) (m := 1) (by omega) (by omega)
        rw [one_divInt] at r1
        have sg := (sgn_x ht bt ⟨h0.1, by omega⟩).2
        have st := fq_one.sub qt
        have sb := zrsub fq_one qt (by omega) h0.1 (by omega)
        have sr := rsign_t st ⟨by omega, by omega⟩
        rw [ordQ_zero] at sr
        rw [← et] at sb
        unfold frT at r1 sr
        unfold frT txD at sb
        have nz : (1 - qX t).num < 0 ↔ 1 < qX t := by
          constructor
          · intro g
            have g2 : ¬ 0 ≤ 1 - qX t := fun g3 => by
              have := Rat.num_nonneg.2 g3
              omega
            exact Rat.not_le.1 fun g3 => g2 (by grind)
          · intro g
            have g2 : ¬ 0 ≤ 1 - qX t := fun g3 => by
              exact absurd g (Rat.not_lt.2 (by grind))
            have : ¬ 0 ≤ (1 - qX t).num := fun g3 => g2 (Rat.num_nonneg.1 g3)
            omega
        by_cases g0 : (qX t).num < 0 ∨ 1 < qX t
        · rw [if_pos g0]
          exact rmix_out _ _ _ _ _ _ _ _ _ _ _ _ _ _ _ _ _ _ _ _ (by rw [sgn_lt, sgn_lt, nz]; exact g0) ca0 cb0 f0 r1 sb sg sr
        · rw [if_neg g0]
          have ma0 := zrmul st qa0 (by omega) h0.1 (by omega)
          have mb0 := zrmul qt qb0 h0.1 h0.1 (by omega)
          have mc0 := zradd (st.mul qa0) (qt.mul qb0) (by omega) (by omega) (by omega)
          rw [← ea0] at ma0
          rw [← et, ← eb0] at mb0
          unfold frT txD at ma0 mb0
          unfold frT at mc0
          have ma1 := zrmul st qa1 (by omega) h0.1 (by omega)
          have mb1 := zrmul qt qb1 h0.1 h0.1 (by omega)
          have mc1 := zradd (st.mul qa1) (qt.mul qb1) (by omega) (by omega) (by omega)
          rw [← ea1] at ma1
          rw [← et, ← eb1] at mb1
          unfold frT txD at ma1 mb1
          unfold frT at mc1
          have ma2 := zrmul st qa2 (by omega) h0.1 (by omega)
          have mb2 := zrmul qt qb2 h0.1 h0.1 (by omega)
          have mc2 := zradd (st.mul qa2) (qt.mul qb2) (by omega) (by omega) (by omega)
          rw [← ea2] at ma2
          rw [← et, ← eb2] at mb2
          unfold frT txD at ma2 mb2
          unfold frT at mc2
          exact rmix_ok _ _ _ _ _ _ _ _ _ _ _ _ _ _ _ _ _ _ _ _ _ _ _ _ _ _ _ _ _ _ _ _ _ _ _ _ _ _ (by rw [sgn_lt, sgn_lt, nz, ← not_or]; exact g0) ca0 cb0 f0 r1 sb sg sr ma0 mb0 mc0 ma1 mb1 mc1 ma2 mb2 mc2
      · rw [if_neg ht]
        rw [show okP t.1 t.2 = false from Bool.eq_false_iff.2 ht] at f
        exact rmix_no3 _ _ _ _ _ _ _ _ _ _ _ _ _ _ _ (by omega) ca0 cb0 f
    · rw [if_neg hb]
      exact rmix_no2 _ _ _ _ _ _ _ _ _ _ _ _ _ _ _ hb ca0 cb
  · rw [if_neg ha]
    exact rmix_no1 _ _ _ _ _ _ _ _ _ _ _ _ _ _ _ ha ca
theorem mix_x {a0 a1 b0 b1 c0 c1 e0 e1 f0 f1 g0 g1 t0 t1 : List UInt8} (ba : Bd3 a0 a1 b0 b1 c0 c1) (bb : Bd3 e0 e1 f0 f1 g0 g1) (bt : BdX 20 (t0, t1)) : ∃ u0 u1 v0 v1 w0 w1 e,
    Called Tryz.prog 33 [.agg [.str a0, .str a1, .str b0, .str b1, .str c0, .str c1], .agg [.str e0, .str e1, .str f0, .str f1, .str g0, .str g1], .agg [.str t0, .str t1]] (.tup [.agg [.str u0, .str u1, .str v0, .str v1, .str w0, .str w1], .int .i64 e]) ∧
    Called Tryz.prog 34 [.agg [.str a0, .str a1, .str b0, .str b1, .str c0, .str c1], .agg [.str e0, .str e1, .str f0, .str f1, .str g0, .str g1], .agg [.str t0, .str t1]] (.tup [.agg [.str u0, .str u1, .str v0, .str v1, .str w0, .str w1], .int .i64 e]) := by
  have l := lmix_c (n := 20) (a := ((a0, a1), (b0, b1), (c0, c1))) (b := ((e0, e1), (f0, f1), (g0, g1))) (t := (t0, t1)) ba bb bt (by omega)
  have r := rmix_c (n := 20) (a := ((a0, a1), (b0, b1), (c0, c1))) (b := ((e0, e1), (f0, f1), (g0, g1))) (t := (t0, t1)) ba bb bt (by omega)
  have f : ∃ x y, mixX ((a0, a1), (b0, b1), (c0, c1)) ((e0, e1), (f0, f1), (g0, g1)) (t0, t1) = triE x y := by
    unfold mixX
    repeat' split
    all_goals exact ⟨_, _, rfl⟩
  obtain ⟨x, y, f⟩ := f
  rw [f] at l r
  exact ⟨_, _, _, _, _, _, _, l, r⟩
end Go.Proofs.YtfilfmadapjajaaGreatDoor
end
section
namespace Go.Proofs.YtfilfmadapjajaaGreatDoor
open Go Go.V Go.Nb
theorem zZ50_0 : type_of% @Nat.zero_add ∧ type_of% @tn0 ∧ type_of% @tn1 ∧ type_of% @tn2 := ⟨@Nat.zero_add, @tn0, @tn1, @tn2⟩
theorem lightMixes_c (c0 c1 c2 d0 d1 d2 k n d : Int) (s t s' t' : List UInt8) (hc : (0 ≤ c0 ∧ c0 ≤ 65535) ∧ (0 ≤ c1 ∧ c1 ≤ 65535) ∧ (0 ≤ c2 ∧ c2 ≤ 65535)) (hd : (0 ≤ d0 ∧ d0 ≤ 65535) ∧ (0 ≤ d1 ∧ d1 ≤ 65535) ∧ (0 ≤ d2 ∧ d2 ≤ 65535)) (hk : 0 ≤ k ∧ k ≤ 255) (hn : -32768 ≤ n ∧ n ≤ 32767) (hdd : 0 ≤ d ∧ d ≤ 255) :
    Called Tryz.prog 6 [.iarr .u16 [c0, c1, c2], .iarr .u16 [d0, d1, d2], .agg [.int .u8 k, .str s, .str t], .agg [.int .i16 n, .int .u8 d], .agg [.str s', .str t']] (.bool true) := by
  obtain ⟨A0, A1, A2, A3, A4, A5, ta, ba⟩ := tri_x c0 c1 c2 hc.1 hc.2.1 hc.2.2
  obtain ⟨B0, B1, B2, B3, B4, B5, tb', bb⟩ := tri_x d0 d1 d2 hd.1 hd.2.1 hd.2.2
  obtain ⟨C0, C1, C2, C3, C4, C5, tc, bc⟩ := bend_x k s t A0 A1 A2 A3 A4 A5 hk ba
  obtain ⟨E0, E1, E2, E3, E4, E5, td, bd⟩ := bend_x k s t B0 B1 B2 B3 B4 B5 hk bb
  obtain ⟨S0, S1, us, bs⟩ := share_x n d hn hdd
  obtain ⟨T0, T1, ut, bt⟩ := num_x n d hn hdd
  obtain ⟨U0, U1, uu, bu⟩ := odd_x s' t'
  obtain ⟨R00x0, R00x1, R00x2, R00x3, R00x4, R00x5, e00, l00, r00⟩ := mix_x ba bb bs
  obtain ⟨R01x0, R01x1, R01x2, R01x3, R01x4, R01x5, e01, l01, r01⟩ := mix_x ba bb bt
  obtain ⟨R02x0, R02x1, R02x2, R02x3, R02x4, R02x5, e02, l02, r02⟩ := mix_x ba bb bu
  obtain ⟨R10x0, R10x1, R10x2, R10x3, R10x4, R10x5, e10, l10, r10⟩ := mix_x bc bb bs
  obtain ⟨R11x0, R11x1, R11x2, R11x3, R11x4, R11x5, e11, l11, r11⟩ := mix_x bc bb bt
  obtain ⟨R12x0, R12x1, R12x2, R12x3, R12x4, R12x5, e12, l12, r12⟩ := mix_x bc bb bu
  obtain ⟨R20x0, R20x1, R20x2, R20x3, R20x4, R20x5, e20, l20, r20⟩ := mix_x ba bd bs
  obtain ⟨R21x0, R21x1, R21x2, R21x3, R21x4, R21x5, e21, l21, r21⟩ := mix_x ba bd bt
  obtain ⟨R22x0, R22x1, R22x2, R22x3, R22x4, R22x5, e22, l22, r22⟩ := mix_x ba bd bu
  clear hc hd hk hn hdd ba bb bc bd bs bt bu
  have sm := same_c
  refine called_of_run tbOk 6 ⟨Tryz.func6, rfl, rfl, Nat.le_of_ble_eq_true rfl⟩ ?_
  (conv => whnf)
  (conv => whnf)
  (try simp only [Nat.zero_add])
  repeat ((first | refine V.s1 ?_ | ((try ((with_reducible refine .ext ?_); (conv => whnf); (try simp only [Nat.zero_add]))); (with_reducible refine call_intro (r := ?_) ?_ ?_); rotate_left; (focus (first | exact (works_c))); (conv => whnf))); (try simp only [Nat.zero_add]))
  (conv => whnf)
  (try simp only [Nat.zero_add])
  repeat ((first | refine V.s1 ?_); (try simp only [Nat.zero_add]))
  refine ⟨(.take 0 (.take 2 (.take 5 (.take 6 (.take 9 (.take 12 (.take 14 (.take 15 (.take 20 (.ev (.cons 1 [20, 15, 14, 12, 9, 6, 5, 2] (.ev (.cons 3 [20, 15, 14, 12, 9, 6, 5] (.take 4 (.ev (.cons 7 [4, 20, 15, 14, 12, 9, 5] (.ev (.cons 8 [4, 20, 15, 14, 12, 9] (.ev (.cons 10 [4, 20, 15, 14, 12] (.take 11 (.ev (.cons 13 [11, 4, 20, 15, 14] (.ev (.cons 16 [11, 4, 20, 14] (.ev (.cons 17 [11, 4, 20] (.take 18 (.take 19 (.done))) (.nil))) (.nil))) (.nil)))) (.nil))) (.nil))) (.nil)))) (.nil))) (.nil)))))))))))), [], ⟨by kernel_rfl, by kernel_rfl, by kernel_rfl, by kernel_rfl⟩, ?_⟩
  refine drw_meet [(40, .agg [.str A0, .str A1, .str A2, .str A3, .str A4, .str A5, .str B0, .str B1, .str B2, .str B3, .str B4, .str B5, .str C0, .str C1, .str C2, .str C3, .str C4, .str C5, .str B0, .str B1, .str B2, .str B3, .str B4, .str B5, .str A0, .str A1, .str A2, .str A3, .str A4, .str A5, .str E0, .str E1, .str E2, .str E3, .str E4, .str E5]), (41, .int .i64 0)] [] ?_ ?_
  · (conv => whnf); (try simp only [Nat.zero_add])
    repeat' (first | exact V.wk | ((with_reducible refine And.intro ?_ draw_nil); (conv => whnf); (try simp only [Nat.zero_add])) | ((with_reducible first | refine draw_split ?_ ?_ | refine nds_split ?_ ?_) <;> (conv => whnf); (try simp only [Nat.zero_add])) | ((first | refine V.s1 ?_ | ((with_reducible refine recheck_and ?_ ?_); (focus ((conv => whnf); (try simp only [Nat.zero_add]); (repeat (refine V.s1 ?_; (try simp only [Nat.zero_add]))); exact ⟨rfl⟩)); (conv => whnf)) | ((try ((with_reducible refine .ext ?_); (conv => whnf); (try simp only [Nat.zero_add]))); (with_reducible refine call_intro (r := ?_) ?_ ?_); rotate_left; (focus (first | exact (ta) | exact (tb') | exact (tc) | exact (td))); (conv => whnf))); (try simp only [Nat.zero_add])) | (refine And.intro ?_ ?_ <;> (conv => whnf); (try simp only [Nat.zero_add])))
  (conv => whnf)
  (try simp only [zZ50_0])
  repeat ((first | refine V.s1 ?_); (try simp only [zZ50_0]))
  refine lp_any (0) (fun k => k ≤ 3) (fun k => 3 - k) (fun k => [(41, .int .i64 k)]) (fun k => []) ?_ ?_ ?_
  · exact V.wk
  · exact Nat.zero_le _
  intro k hk
  have hk4 : k = 0 ∨ k = 1 ∨ k = 2 ∨ k = 3 := by omega
  rcases hk4 with e | e | e | e
  all_goals subst e
  · simp only [k0]
    (conv => whnf)
    (try simp only [zZ50_0])
    repeat ((first | refine V.s1 ?_); (try simp only [zZ50_0]))
    refine ⟨(.take 0 (.take 2 (.take 4 (.take 7 (.ev (.cons 1 [7, 4, 2] (.ev (.cons 3 [7, 4] (.ev (.cons 5 [7] (.take 6 (.done)) (.nil))) (.nil))) (.nil))))))), [], ⟨by kernel_rfl, by kernel_rfl, by kernel_rfl, by kernel_rfl⟩, ?_⟩
    refine drw_meet [(50, .agg [.str S0, .str S1, .str T0, .str T1, .str U0, .str U1]), (51, .int .i64 0)] [] ?_ ?_
    · (conv => whnf); (try simp only [Nat.zero_add])
      repeat' (first | exact V.wk | ((with_reducible refine And.intro ?_ draw_nil); (conv => whnf); (try simp only [Nat.zero_add])) | ((with_reducible first | refine draw_split ?_ ?_ | refine nds_split ?_ ?_) <;> (conv => whnf); (try simp only [Nat.zero_add])) | ((first | refine V.s1 ?_ | ((with_reducible refine recheck_and ?_ ?_); (focus ((conv => whnf); (try simp only [Nat.zero_add]); (repeat (refine V.s1 ?_; (try simp only [Nat.zero_add]))); exact ⟨rfl⟩)); (conv => whnf)) | ((try ((with_reducible refine .ext ?_); (conv => whnf); (try simp only [Nat.zero_add]))); (with_reducible refine call_intro (r := ?_) ?_ ?_); rotate_left; (focus (first | exact (us) | exact (ut) | exact (uu))); (conv => whnf))); (try simp only [Nat.zero_add])) | (refine And.intro ?_ ?_ <;> (conv => whnf); (try simp only [Nat.zero_add])))
    (conv => whnf)
    (try simp only [zZ50_0])
    repeat ((first | refine V.s1 ?_); (try simp only [zZ50_0]))
    refine lp_any (0) (fun k => k ≤ 3) (fun k => 3 - k) (fun k => [(51, .int .i64 k)]) (fun k => []) ?_ ?_ ?_
    · exact V.wk
    · exact Nat.zero_le _
    intro k hk
    have hk4 : k = 0 ∨ k = 1 ∨ k = 2 ∨ k = 3 := by omega
    rcases hk4 with e | e | e | e
    all_goals subst e
    · simp only [k0]
      (conv => whnf)
      (try simp only [zZ50_0])
      repeat ((first | refine V.s1 ?_ | ((try ((with_reducible refine .ext ?_); (conv => whnf); (try simp only [zZ50_0]))); (with_reducible refine call_intro (r := ?_) ?_ ?_); rotate_left; (focus (first | exact (l00) | exact (r00) | exact (sm _ _ _ _ _ _ _))); (conv => whnf))); (try simp only [zZ50_0]))
      exact ⟨1, by omega, by omega, V.wk⟩
    · simp only [k1]
      (conv => whnf)
      (try simp only [zZ50_0])
      repeat ((first | refine V.s1 ?_ | ((try ((with_reducible refine .ext ?_); (conv => whnf); (try simp only [zZ50_0]))); (with_reducible refine call_intro (r := ?_) ?_ ?_); rotate_left; (focus (first | exact (l01) | exact (r01) | exact (sm _ _ _ _ _ _ _))); (conv => whnf))); (try simp only [zZ50_0]))
      exact ⟨2, by omega, by omega, V.wk⟩
    · simp only [k2]
      (conv => whnf)
      (try simp only [zZ50_0])
      repeat ((first | refine V.s1 ?_ | ((try ((with_reducible refine .ext ?_); (conv => whnf); (try simp only [zZ50_0]))); (with_reducible refine call_intro (r := ?_) ?_ ?_); rotate_left; (focus (first | exact (l02) | exact (r02) | exact (sm _ _ _ _ _ _ _))); (conv => whnf))); (try simp only [zZ50_0]))
      exact ⟨3, by omega, by omega, V.wk⟩
    · simp only [k3]
      (conv => whnf)
      (try simp only [zZ50_0])
      repeat ((first | refine V.s1 ?_); (try simp only [zZ50_0]))
      exact ⟨1, by omega, by omega, V.wk⟩
  · simp only [k1]
    (conv => whnf)
    (try simp only [zZ50_0])
    repeat ((first | refine V.s1 ?_); (try simp only [zZ50_0]))
    refine ⟨(.take 0 (.take 2 (.take 4 (.take 7 (.ev (.cons 1 [7, 4, 2] (.ev (.cons 3 [7, 4] (.ev (.cons 5 [7] (.take 6 (.done)) (.nil))) (.nil))) (.nil))))))), [], ⟨by kernel_rfl, by kernel_rfl, by kernel_rfl, by kernel_rfl⟩, ?_⟩
    refine drw_meet [(50, .agg [.str S0, .str S1, .str T0, .str T1, .str U0, .str U1]), (51, .int .i64 0)] [] ?_ ?_
    · (conv => whnf); (try simp only [Nat.zero_add])
      repeat' (first | exact V.wk | ((with_reducible refine And.intro ?_ draw_nil); (conv => whnf); (try simp only [Nat.zero_add])) | ((with_reducible first | refine draw_split ?_ ?_ | refine nds_split ?_ ?_) <;> (conv => whnf); (try simp only [Nat.zero_add])) | ((first | refine V.s1 ?_ | ((with_reducible refine recheck_and ?_ ?_); (focus ((conv => whnf); (try simp only [Nat.zero_add]); (repeat (refine V.s1 ?_; (try simp only [Nat.zero_add]))); exact ⟨rfl⟩)); (conv => whnf)) | ((try ((with_reducible refine .ext ?_); (conv => whnf); (try simp only [Nat.zero_add]))); (with_reducible refine call_intro (r := ?_) ?_ ?_); rotate_left; (focus (first | exact (us) | exact (ut) | exact (uu))); (conv => whnf))); (try simp only [Nat.zero_add])) | (refine And.intro ?_ ?_ <;> (conv => whnf); (try simp only [Nat.zero_add])))
    (conv => whnf)
    (try simp only [zZ50_0])
    repeat ((first | refine V.s1 ?_); (try simp only [zZ50_0]))
    refine lp_any (0) (fun k => k ≤ 3) (fun k => 3 - k) (fun k => [(51, .int .i64 k)]) (fun k => []) ?_ ?_ ?_
    · exact V.wk
    · exact Nat.zero_le _
    intro k hk
    have hk4 : k = 0 ∨ k = 1 ∨ k = 2 ∨ k = 3 := by omega
    rcases hk4 with e | e | e | e
    all_goals subst e
    · simp only [k0]
      (conv => whnf)
      (try simp only [zZ50_0])
      repeat ((first | refine V.s1 ?_ | ((try ((with_reducible refine .ext ?_); (conv => whnf); (try simp only [zZ50_0]))); (with_reducible refine call_intro (r := ?_) ?_ ?_); rotate_left; (focus (first | exact (l10) | exact (r10) | exact (sm _ _ _ _ _ _ _))); (conv => whnf))); (try simp only [zZ50_0]))
      exact ⟨1, by omega, by omega, V.wk⟩
    · simp only [k1]
      (conv => whnf)
      (try simp only [zZ50_0])
      repeat ((first | refine V.s1 ?_ | ((try ((with_reducible refine .ext ?_); (conv => whnf); (try simp only [zZ50_0]))); (with_reducible refine call_intro (r := ?_) ?_ ?_); rotate_left; (focus (first | exact (l11) | exact (r11) | exact (sm _ _ _ _ _ _ _))); (conv => whnf))); (try simp only [zZ50_0]))
      exact ⟨2, by omega, by omega, V.wk⟩
    · simp only [k2]
      (conv => whnf)
      (try simp only [zZ50_0])
      repeat ((first | refine V.s1 ?_ | ((try ((with_reducible refine .ext ?_); (conv => whnf); (try simp only [zZ50_0]))); (with_reducible refine call_intro (r := ?_) ?_ ?_); rotate_left; (focus (first | exact (l12) | exact (r12) | exact (sm _ _ _ _ _ _ _))); (conv => whnf))); (try simp only [zZ50_0]))
      exact ⟨3, by omega, by omega, V.wk⟩
    · simp only [k3]
      (conv => whnf)
      (try simp only [zZ50_0])
      repeat ((first | refine V.s1 ?_); (try simp only [zZ50_0]))
      exact ⟨2, by omega, by omega, V.wk⟩
  · simp only [k2]
    (conv => whnf)
    (try simp only [zZ50_0])
    repeat ((first | refine V.s1 ?_); (try simp only [zZ50_0]))
    refine ⟨(.take 0 (.take 2 (.take 4 (.take 7 (.ev (.cons 1 [7, 4, 2] (.ev (.cons 3 [7, 4] (.ev (.cons 5 [7] (.take 6 (.done)) (.nil))) (.nil))) (.nil))))))), [], ⟨by kernel_rfl, by kernel_rfl, by kernel_rfl, by kernel_rfl⟩, ?_⟩
    refine drw_meet [(50, .agg [.str S0, .str S1, .str T0, .str T1, .str U0, .str U1]), (51, .int .i64 0)] [] ?_ ?_
    · (conv => whnf); (try simp only [Nat.zero_add])
      repeat' (first | exact V.wk | ((with_reducible refine And.intro ?_ draw_nil); (conv => whnf); (try simp only [Nat.zero_add])) | ((with_reducible first | refine draw_split ?_ ?_ | refine nds_split ?_ ?_) <;> (conv => whnf); (try simp only [Nat.zero_add])) | ((first | refine V.s1 ?_ | ((with_reducible refine recheck_and ?_ ?_); (focus ((conv => whnf); (try simp only [Nat.zero_add]); (repeat (refine V.s1 ?_; (try simp only [Nat.zero_add]))); exact ⟨rfl⟩)); (conv => whnf)) | ((try ((with_reducible refine .ext ?_); (conv => whnf); (try simp only [Nat.zero_add]))); (with_reducible refine call_intro (r := ?_) ?_ ?_); rotate_left; (focus (first | exact (us) | exact (ut) | exact (uu))); (conv => whnf))); (try simp only [Nat.zero_add])) | (refine And.intro ?_ ?_ <;> (conv => whnf); (try simp only [Nat.zero_add])))
    (conv => whnf)
    (try simp only [zZ50_0])
    repeat ((first | refine V.s1 ?_); (try simp only [zZ50_0]))
    refine lp_any (0) (fun k => k ≤ 3) (fun k => 3 - k) (fun k => [(51, .int .i64 k)]) (fun k => []) ?_ ?_ ?_
    · exact V.wk
    · exact Nat.zero_le _
    intro k hk
    have hk4 : k = 0 ∨ k = 1 ∨ k = 2 ∨ k = 3 := by omega
    rcases hk4 with e | e | e | e
    all_goals subst e
    · simp only [k0]
      (conv => whnf)
      (try simp only [zZ50_0])
      repeat ((first | refine V.s1 ?_ | ((try ((with_reducible refine .ext ?_); (conv => whnf); (try simp only [zZ50_0]))); (with_reducible refine call_intro (r := ?_) ?_ ?_); rotate_left; (focus (first | exact (l20) | exact (r20) | exact (sm _ _ _ _ _ _ _))); (conv => whnf))); (try simp only [zZ50_0]))
      exact ⟨1, by omega, by omega, V.wk⟩
    · simp only [k1]
      (conv => whnf)
      (try simp only [zZ50_0])
      repeat ((first | refine V.s1 ?_ | ((try ((with_reducible refine .ext ?_); (conv => whnf); (try simp only [zZ50_0]))); (with_reducible refine call_intro (r := ?_) ?_ ?_); rotate_left; (focus (first | exact (l21) | exact (r21) | exact (sm _ _ _ _ _ _ _))); (conv => whnf))); (try simp only [zZ50_0]))
      exact ⟨2, by omega, by omega, V.wk⟩
    · simp only [k2]
      (conv => whnf)
      (try simp only [zZ50_0])
      repeat ((first | refine V.s1 ?_ | ((try ((with_reducible refine .ext ?_); (conv => whnf); (try simp only [zZ50_0]))); (with_reducible refine call_intro (r := ?_) ?_ ?_); rotate_left; (focus (first | exact (l22) | exact (r22) | exact (sm _ _ _ _ _ _ _))); (conv => whnf))); (try simp only [zZ50_0]))
      exact ⟨3, by omega, by omega, V.wk⟩
    · simp only [k3]
      (conv => whnf)
      (try simp only [zZ50_0])
      repeat ((first | refine V.s1 ?_); (try simp only [zZ50_0]))
      exact ⟨3, by omega, by omega, V.wk⟩
  · simp only [k3]
    (conv => whnf)
    (try simp only [zZ50_0])
    repeat ((first | refine V.s1 ?_); (try simp only [zZ50_0]))
    exact Fin.of rfl
end Go.Proofs.YtfilfmadapjajaaGreatDoor
end
