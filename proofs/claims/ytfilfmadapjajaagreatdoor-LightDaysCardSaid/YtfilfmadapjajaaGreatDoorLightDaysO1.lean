/- What some functions of the program answer at values that mean given lists, texts and numbers, each proved of the program's own code: part 7. Conditions: those that each theorem names. -/
import Derived.Test.YtfilfmadapjajaaGreatDoorH4
import Derived.Test.YtfilfmadapjajaaGreatDoorH5
import Derived.Test.YtfilfmadapjajaaGreatDoorH6
set_option linter.unusedSimpArgs false
set_option linter.unusedVariables false
set_option maxHeartbeats 8000000
set_option maxRecDepth 100000
section
namespace Go.Proofs.YtfilfmadapjajaaGreatDoor
open Go Go.V Go.Nb
theorem rfrom_no (a0 b0 a1 b1 a2 b2 : List UInt8) (e : Int) (he : e ≠ 0) (fr : Called Tryz.prog 46 [.slf 2 3 (fun j => List.take 2 (List.drop (j * 2) [.str a0, .str b0, .str a1, .str b1, .str a2, .str b2]))] (.int .i64 e)) :
    Called Tryz.prog 26 [.agg [.str a0, .str b0], .agg [.str a1, .str b1], .agg [.str a2, .str b2]] (.tup [.agg [.str [], .str [], .str [], .str [], .str [], .str []], .int .i64 e]) := by
  refine called_of_run tbOk 6 ⟨Tryz.func26, rfl, rfl, Nat.le_of_ble_eq_true rfl⟩ ?_
  (conv => whnf)
  (conv => whnf)
  (try simp only [Nat.zero_add])
  repeat ((first | refine V.s1 ?_ | ((try ((with_reducible refine .ext ?_); (conv => whnf); (try simp only [Nat.zero_add]))); (with_reducible refine call_intro (r := ?_) ?_ ?_); rotate_left; (focus (first | exact (fr))); (conv => whnf))); (try simp only [Nat.zero_add]))
  refine Cnd.split (CondB.mk (fun hq => ?_) (fun hq => ?_))
  · (conv => whnf)
    (try simp only [Nat.zero_add])
    repeat ((first | refine V.s1 ?_); (try simp only [Nat.zero_add]))
    exact Fin.of rfl
  · exfalso
    simp at hq
    exact he hq
theorem rfrom_neg (a0 b0 a1 b1 a2 b2 : List UInt8) (gx gy gl : Int) (h : gx < 0 ∨ gy < 0 ∨ gl < 0) (fr : Called Tryz.prog 46 [.slf 2 3 (fun j => List.take 2 (List.drop (j * 2) [.str a0, .str b0, .str a1, .str b1, .str a2, .str b2]))] (.int .i64 0))
    (sx : Called Tryz.prog 47 [.agg [.str a0, .str b0]] (.int .i64 gx)) (sy : Called Tryz.prog 47 [.agg [.str a1, .str b1]] (.int .i64 gy)) (sl : Called Tryz.prog 47 [.agg [.str a2, .str b2]] (.int .i64 gl)) :
    Called Tryz.prog 26 [.agg [.str a0, .str b0], .agg [.str a1, .str b1], .agg [.str a2, .str b2]] (.tup [.agg [.str [], .str [], .str [], .str [], .str [], .str []], .int .i64 2]) := by
  refine called_of_run tbOk 6 ⟨Tryz.func26, rfl, rfl, Nat.le_of_ble_eq_true rfl⟩ ?_
  (conv => whnf)
  (conv => whnf)
  (try simp only [Nat.zero_add])
  repeat ((first | refine V.s1 ?_ | ((try ((with_reducible refine .ext ?_); (conv => whnf); (try simp only [Nat.zero_add]))); (with_reducible refine call_intro (r := ?_) ?_ ?_); rotate_left; (focus (first | exact (fr) | exact (sx) | exact (sy) | exact (sl))); (conv => whnf))); (try simp only [Nat.zero_add]))
  refine Cnd.split (CondB.mk (fun hq => ?_) (fun hq => ?_))
  · (conv => whnf)
    (try simp only [Nat.zero_add])
    repeat ((first | refine V.s1 ?_); (try simp only [Nat.zero_add]))
    exact Fin.of rfl
  · exfalso
    simp at hq
    omega
theorem rfrom_big (a0 b0 a1 b1 a2 b2 c0 d0 u0 v0 z0 w0 : List UInt8) (gx gy gl gz : Int) (h : ¬ gx < 0 ∧ ¬ gy < 0 ∧ ¬ gl < 0) (hz : gz < 0) (fr : Called Tryz.prog 46 [.slf 2 3 (fun j => List.take 2 (List.drop (j * 2) [.str a0, .str b0, .str a1, .str b1, .str a2, .str b2]))] (.int .i64 0))
    (sx : Called Tryz.prog 47 [.agg [.str a0, .str b0]] (.int .i64 gx)) (sy : Called Tryz.prog 47 [.agg [.str a1, .str b1]] (.int .i64 gy)) (sl : Called Tryz.prog 47 [.agg [.str a2, .str b2]] (.int .i64 gl))
    (o : Called Tryz.prog 42 [.int .i64 1, .int .i64 1] (.agg [.str c0, .str d0])) (ad : Called Tryz.prog 93 [.agg [.str a0, .str b0], .agg [.str a1, .str b1]] (.tup [.agg [.str u0, .str v0], .int .i64 0]))
    (sb : Called Tryz.prog 91 [.agg [.str c0, .str d0], .agg [.str u0, .str v0]] (.tup [.agg [.str z0, .str w0], .int .i64 0])) (sz : Called Tryz.prog 47 [.agg [.str z0, .str w0]] (.int .i64 gz)) :
    Called Tryz.prog 26 [.agg [.str a0, .str b0], .agg [.str a1, .str b1], .agg [.str a2, .str b2]] (.tup [.agg [.str [], .str [], .str [], .str [], .str [], .str []], .int .i64 2]) := by
  refine called_of_run tbOk 6 ⟨Tryz.func26, rfl, rfl, Nat.le_of_ble_eq_true rfl⟩ ?_
  (conv => whnf)
  (conv => whnf)
  (try simp only [Nat.zero_add])
  repeat ((first | refine V.s1 ?_ | ((try ((with_reducible refine .ext ?_); (conv => whnf); (try simp only [Nat.zero_add]))); (with_reducible refine call_intro (r := ?_) ?_ ?_); rotate_left; (focus (first | exact (fr) | exact (sx) | exact (sy) | exact (sl))); (conv => whnf))); (try simp only [Nat.zero_add]))
  refine Cnd.split (CondB.mk (fun hq => ?_) (fun hq => ?_))
  · exfalso
    simp at hq
    omega
  (conv => whnf)
  (try simp only [Nat.zero_add])
  repeat ((first | refine V.s1 ?_); (try simp only [Nat.zero_add]))
  refine ⟨(.take 1 (.take 2 (.ev (.cons 0 [2, 1] (.ev (.cons 3 [] (.ev (.cons 4 [] (.ev (.cons 5 [] (.ev (.cons 6 [] (.done) (.nil))) (.nil))) (.cons 5 [] (.ev (.cons 4 [] (.ev (.cons 6 [] (.done) (.nil))) (.nil))) (.nil)))) (.cons 5 [2, 1] (.ev (.cons 3 [] (.ev (.cons 4 [] (.ev (.cons 6 [] (.done) (.nil))) (.nil))) (.nil))) (.nil)))) (.cons 5 [2, 1] (.ev (.cons 0 [2, 1] (.ev (.cons 3 [] (.ev (.cons 4 [] (.ev (.cons 6 [] (.done) (.nil))) (.nil))) (.nil))) (.nil))) (.nil)))))), [], ⟨by kernel_rfl, by kernel_rfl, by kernel_rfl, by kernel_rfl⟩, ?_⟩
  refine drw_meet [(10, .box 10 0)] [(10, .box [.str z0, .str w0]), (9, .box [.int .i64 0])] ?_ ?_
  · (conv => whnf); (try simp only [Nat.zero_add])
    repeat' (first | exact V.wk | ((first | refine V.s1 ?_ | ((with_reducible refine recheck_and ?_ ?_); (focus ((conv => whnf); (try simp only [Nat.zero_add]); (repeat (refine V.s1 ?_; (try simp only [Nat.zero_add]))); exact ⟨rfl⟩)); (conv => whnf)) | ((try ((with_reducible refine .ext ?_); (conv => whnf); (try simp only [Nat.zero_add]))); (with_reducible refine call_intro (r := ?_) ?_ ?_); rotate_left; (focus (first | exact (o) | exact (ad) | exact (sb))); (conv => whnf)) | ((with_reducible refine .inl ?_); (conv => whnf); (first | refine ⟨0, _, _, ⟨Tryz.func58, rfl, rfl, Nat.le_of_ble_eq_true rfl⟩, ?_⟩ | refine ⟨0, _, _, ⟨Tryz.func57, rfl, rfl, Nat.le_of_ble_eq_true rfl⟩, ?_⟩ | refine ⟨0, _, _, ⟨Tryz.func92, rfl, rfl, Nat.le_of_ble_eq_true rfl⟩, ?_⟩); (conv => whnf))); (try simp only [Nat.zero_add])) | (refine And.intro ?_ ?_ <;> (conv => whnf); (try simp only [Nat.zero_add])))
  (conv => whnf)
  (try simp only [Nat.zero_add])
  repeat ((first | refine V.s1 ?_ | ((try ((with_reducible refine .ext ?_); (conv => whnf); (try simp only [Nat.zero_add]))); (with_reducible refine call_intro (r := ?_) ?_ ?_); rotate_left; (focus (first | exact (sz))); (conv => whnf))); (try simp only [Nat.zero_add]))
  refine Cnd.split (CondB.mk (fun hq2 => ?_) (fun hq2 => ?_))
  · (conv => whnf)
    (try simp only [Nat.zero_add])
    repeat ((first | refine V.s1 ?_); (try simp only [Nat.zero_add]))
    exact Fin.of rfl
  · exfalso
    simp at hq2
    omega
theorem rfrom_zero (a0 b0 a1 b1 a2 b2 c0 d0 u0 v0 z0 w0 : List UInt8) (gx gy gl gz : Int) (h : ¬ gx < 0 ∧ ¬ gy < 0 ∧ ¬ gl < 0) (hz : ¬ gz < 0) (hy : gy = 0) (fr : Called Tryz.prog 46 [.slf 2 3 (fun j => List.take 2 (List.drop (j * 2) [.str a0, .str b0, .str a1, .str b1, .str a2, .str b2]))] (.int .i64 0))
    (sx : Called Tryz.prog 47 [.agg [.str a0, .str b0]] (.int .i64 gx)) (sy : Called Tryz.prog 47 [.agg [.str a1, .str b1]] (.int .i64 gy)) (sl : Called Tryz.prog 47 [.agg [.str a2, .str b2]] (.int .i64 gl))
    (o : Called Tryz.prog 42 [.int .i64 1, .int .i64 1] (.agg [.str c0, .str d0])) (ad : Called Tryz.prog 93 [.agg [.str a0, .str b0], .agg [.str a1, .str b1]] (.tup [.agg [.str u0, .str v0], .int .i64 0]))
    (sb : Called Tryz.prog 91 [.agg [.str c0, .str d0], .agg [.str u0, .str v0]] (.tup [.agg [.str z0, .str w0], .int .i64 0])) (sz : Called Tryz.prog 47 [.agg [.str z0, .str w0]] (.int .i64 gz)) :
    Called Tryz.prog 26 [.agg [.str a0, .str b0], .agg [.str a1, .str b1], .agg [.str a2, .str b2]] (.tup [.agg [.str [], .str [], .str [], .str [], .str [], .str []], .int .i64 7]) := by
  refine called_of_run tbOk 6 ⟨Tryz.func26, rfl, rfl, Nat.le_of_ble_eq_true rfl⟩ ?_
  (conv => whnf)
  (conv => whnf)
  (try simp only [Nat.zero_add])
  repeat ((first | refine V.s1 ?_ | ((try ((with_reducible refine .ext ?_); (conv => whnf); (try simp only [Nat.zero_add]))); (with_reducible refine call_intro (r := ?_) ?_ ?_); rotate_left; (focus (first | exact (fr) | exact (sx) | exact (sy) | exact (sl))); (conv => whnf))); (try simp only [Nat.zero_add]))
  refine Cnd.split (CondB.mk (fun hq => ?_) (fun hq => ?_))
  · exfalso
    simp at hq
    omega
  (conv => whnf)
  (try simp only [Nat.zero_add])
  repeat ((first | refine V.s1 ?_); (try simp only [Nat.zero_add]))
  refine ⟨(.take 1 (.take 2 (.ev (.cons 0 [2, 1] (.ev (.cons 3 [] (.ev (.cons 4 [] (.ev (.cons 5 [] (.ev (.cons 6 [] (.done) (.nil))) (.nil))) (.cons 5 [] (.ev (.cons 4 [] (.ev (.cons 6 [] (.done) (.nil))) (.nil))) (.nil)))) (.cons 5 [2, 1] (.ev (.cons 3 [] (.ev (.cons 4 [] (.ev (.cons 6 [] (.done) (.nil))) (.nil))) (.nil))) (.nil)))) (.cons 5 [2, 1] (.ev (.cons 0 [2, 1] (.ev (.cons 3 [] (.ev (.cons 4 [] (.ev (.cons 6 [] (.done) (.nil))) (.nil))) (.nil))) (.nil))) (.nil)))))), [], ⟨by kernel_rfl, by kernel_rfl, by kernel_rfl, by kernel_rfl⟩, ?_⟩
  refine drw_meet [(10, .box 10 0)] [(10, .box [.str z0, .str w0]), (9, .box [.int .i64 0])] ?_ ?_
  · (conv => whnf); (try simp only [Nat.zero_add])
    repeat' (first | exact V.wk | ((first | refine V.s1 ?_ | ((with_reducible refine recheck_and ?_ ?_); (focus ((conv => whnf); (try simp only [Nat.zero_add]); (repeat (refine V.s1 ?_; (try simp only [Nat.zero_add]))); exact ⟨rfl⟩)); (conv => whnf)) | ((try ((with_reducible refine .ext ?_); (conv => whnf); (try simp only [Nat.zero_add]))); (with_reducible refine call_intro (r := ?_) ?_ ?_); rotate_left; (focus (first | exact (o) | exact (ad) | exact (sb))); (conv => whnf)) | ((with_reducible refine .inl ?_); (conv => whnf); (first | refine ⟨0, _, _, ⟨Tryz.func58, rfl, rfl, Nat.le_of_ble_eq_true rfl⟩, ?_⟩ | refine ⟨0, _, _, ⟨Tryz.func57, rfl, rfl, Nat.le_of_ble_eq_true rfl⟩, ?_⟩ | refine ⟨0, _, _, ⟨Tryz.func92, rfl, rfl, Nat.le_of_ble_eq_true rfl⟩, ?_⟩); (conv => whnf))); (try simp only [Nat.zero_add])) | (refine And.intro ?_ ?_ <;> (conv => whnf); (try simp only [Nat.zero_add])))
  (conv => whnf)
  (try simp only [Nat.zero_add])
  repeat ((first | refine V.s1 ?_ | ((try ((with_reducible refine .ext ?_); (conv => whnf); (try simp only [Nat.zero_add]))); (with_reducible refine call_intro (r := ?_) ?_ ?_); rotate_left; (focus (first | exact (sz))); (conv => whnf))); (try simp only [Nat.zero_add]))
  refine Cnd.split (CondB.mk (fun hq2 => ?_) (fun hq2 => ?_))
  · exfalso
    simp at hq2
    omega
  (conv => whnf)
  (try simp only [Nat.zero_add])
  repeat ((first | refine V.s1 ?_ | ((try ((with_reducible refine .ext ?_); (conv => whnf); (try simp only [Nat.zero_add]))); (with_reducible refine call_intro (r := ?_) ?_ ?_); rotate_left; (focus (first | exact (sy))); (conv => whnf))); (try simp only [Nat.zero_add]))
  refine Cnd.split (CondB.mk (fun hq3 => ?_) (fun hq3 => ?_))
  · (conv => whnf)
    (try simp only [Nat.zero_add])
    repeat ((first | refine V.s1 ?_); (try simp only [Nat.zero_add]))
    exact Fin.of rfl
  · exfalso
    simp at hq3
    omega
theorem rfrom_ok (a0 b0 a1 b1 a2 b2 c0 d0 u0 v0 z0 w0 p0 q0 p1 q1 r0 s0 r1 s1 : List UInt8) (gx gy gl gz : Int) (h : ¬ gx < 0 ∧ ¬ gy < 0 ∧ ¬ gl < 0) (hz : ¬ gz < 0) (hy : ¬ gy = 0) (fr : Called Tryz.prog 46 [.slf 2 3 (fun j => List.take 2 (List.drop (j * 2) [.str a0, .str b0, .str a1, .str b1, .str a2, .str b2]))] (.int .i64 0))
    (sx : Called Tryz.prog 47 [.agg [.str a0, .str b0]] (.int .i64 gx)) (sy : Called Tryz.prog 47 [.agg [.str a1, .str b1]] (.int .i64 gy)) (sl : Called Tryz.prog 47 [.agg [.str a2, .str b2]] (.int .i64 gl))
    (o : Called Tryz.prog 42 [.int .i64 1, .int .i64 1] (.agg [.str c0, .str d0])) (ad : Called Tryz.prog 93 [.agg [.str a0, .str b0], .agg [.str a1, .str b1]] (.tup [.agg [.str u0, .str v0], .int .i64 0]))
    (sb : Called Tryz.prog 91 [.agg [.str c0, .str d0], .agg [.str u0, .str v0]] (.tup [.agg [.str z0, .str w0], .int .i64 0])) (sz : Called Tryz.prog 47 [.agg [.str z0, .str w0]] (.int .i64 gz))
    (m1 : Called Tryz.prog 95 [.agg [.str a0, .str b0], .agg [.str a2, .str b2]] (.tup [.agg [.str p0, .str q0], .int .i64 0])) (d1 : Called Tryz.prog 94 [.agg [.str p0, .str q0], .agg [.str a1, .str b1]] (.tup [.agg [.str r0, .str s0], .int .i64 0]))
    (m2 : Called Tryz.prog 95 [.agg [.str z0, .str w0], .agg [.str a2, .str b2]] (.tup [.agg [.str p1, .str q1], .int .i64 0])) (d2 : Called Tryz.prog 94 [.agg [.str p1, .str q1], .agg [.str a1, .str b1]] (.tup [.agg [.str r1, .str s1], .int .i64 0])) :
    Called Tryz.prog 26 [.agg [.str a0, .str b0], .agg [.str a1, .str b1], .agg [.str a2, .str b2]] (.tup [.agg [.str r0, .str s0, .str a2, .str b2, .str r1, .str s1], .int .i64 0]) := by
  refine called_of_run tbOk 6 ⟨Tryz.func26, rfl, rfl, Nat.le_of_ble_eq_true rfl⟩ ?_
  (conv => whnf)
  (conv => whnf)
  (try simp only [Nat.zero_add])
  repeat ((first | refine V.s1 ?_ | ((try ((with_reducible refine .ext ?_); (conv => whnf); (try simp only [Nat.zero_add]))); (with_reducible refine call_intro (r := ?_) ?_ ?_); rotate_left; (focus (first | exact (fr) | exact (sx) | exact (sy) | exact (sl))); (conv => whnf))); (try simp only [Nat.zero_add]))
  refine Cnd.split (CondB.mk (fun hq => ?_) (fun hq => ?_))
  · exfalso
    simp at hq
    omega
  (conv => whnf)
  (try simp only [Nat.zero_add])
  repeat ((first | refine V.s1 ?_); (try simp only [Nat.zero_add]))
  refine ⟨(.take 1 (.take 2 (.ev (.cons 0 [2, 1] (.ev (.cons 3 [] (.ev (.cons 4 [] (.ev (.cons 5 [] (.ev (.cons 6 [] (.done) (.nil))) (.nil))) (.cons 5 [] (.ev (.cons 4 [] (.ev (.cons 6 [] (.done) (.nil))) (.nil))) (.nil)))) (.cons 5 [2, 1] (.ev (.cons 3 [] (.ev (.cons 4 [] (.ev (.cons 6 [] (.done) (.nil))) (.nil))) (.nil))) (.nil)))) (.cons 5 [2, 1] (.ev (.cons 0 [2, 1] (.ev (.cons 3 [] (.ev (.cons 4 [] (.ev (.cons 6 [] (.done) (.nil))) (.nil))) (.nil))) (.nil))) (.nil)))))), [], ⟨by kernel_rfl, by kernel_rfl, by kernel_rfl, by kernel_rfl⟩, ?_⟩
  refine drw_meet [(10, .box 10 0)] [(10, .box [.str z0, .str w0]), (9, .box [.int .i64 0])] ?_ ?_
  · (conv => whnf); (try simp only [Nat.zero_add])
    repeat' (first | exact V.wk | ((first | refine V.s1 ?_ | ((with_reducible refine recheck_and ?_ ?_); (focus ((conv => whnf); (try simp only [Nat.zero_add]); (repeat (refine V.s1 ?_; (try simp only [Nat.zero_add]))); exact ⟨rfl⟩)); (conv => whnf)) | ((try ((with_reducible refine .ext ?_); (conv => whnf); (try simp only [Nat.zero_add]))); (with_reducible refine call_intro (r := ?_) ?_ ?_); rotate_left; (focus (first | exact (o) | exact (ad) | exact (sb))); (conv => whnf)) | ((with_reducible refine .inl ?_); (conv => whnf); (first | refine ⟨0, _, _, ⟨Tryz.func58, rfl, rfl, Nat.le_of_ble_eq_true rfl⟩, ?_⟩ | refine ⟨0, _, _, ⟨Tryz.func57, rfl, rfl, Nat.le_of_ble_eq_true rfl⟩, ?_⟩ | refine ⟨0, _, _, ⟨Tryz.func92, rfl, rfl, Nat.le_of_ble_eq_true rfl⟩, ?_⟩); (conv => whnf))); (try simp only [Nat.zero_add])) | (refine And.intro ?_ ?_ <;> (conv => whnf); (try simp only [Nat.zero_add])))
  (conv => whnf)
  (try simp only [Nat.zero_add])
  repeat ((first | refine V.s1 ?_ | ((try ((with_reducible refine .ext ?_); (conv => whnf); (try simp only [Nat.zero_add]))); (with_reducible refine call_intro (r := ?_) ?_ ?_); rotate_left; (focus (first | exact (sz))); (conv => whnf))); (try simp only [Nat.zero_add]))
  refine Cnd.split (CondB.mk (fun hq2 => ?_) (fun hq2 => ?_))
  · exfalso
    simp at hq2
    omega
  (conv => whnf)
  (try simp only [Nat.zero_add])
  repeat ((first | refine V.s1 ?_ | ((try ((with_reducible refine .ext ?_); (conv => whnf); (try simp only [Nat.zero_add]))); (with_reducible refine call_intro (r := ?_) ?_ ?_); rotate_left; (focus (first | exact (sy))); (conv => whnf))); (try simp only [Nat.zero_add]))
  refine Cnd.split (CondB.mk (fun hq3 => ?_) (fun hq3 => ?_))
  · exfalso
    simp at hq3
    omega
  (conv => whnf)
  (try simp only [Nat.zero_add])
  repeat ((first | refine V.s1 ?_); (try simp only [Nat.zero_add]))
  refine ⟨(.take 0 (.take 1 (.take 3 (.take 5 (.take 6 (.take 7 (.take 9 (.ev (.cons 2 [9, 7, 6, 5, 3] (.ev (.cons 4 [9, 7, 6, 5] (.ev (.cons 8 [9, 5] (.ev (.cons 10 [5] (.take 11 (.ev (.cons 12 [11, 5] (.ev (.cons 13 [] (.done) (.nil))) (.nil)))) (.cons 12 [9, 5] (.ev (.cons 10 [5] (.take 11 (.ev (.cons 13 [] (.done) (.nil)))) (.nil))) (.nil)))) (.cons 12 [9, 7, 6, 5] (.ev (.cons 8 [9, 5] (.ev (.cons 10 [5] (.take 11 (.ev (.cons 13 [] (.done) (.nil)))) (.nil))) (.nil))) (.nil)))) (.cons 12 [9, 7, 6, 5, 3] (.ev (.cons 4 [9, 7, 6, 5] (.ev (.cons 8 [9, 5] (.ev (.cons 10 [5] (.take 11 (.ev (.cons 13 [] (.done) (.nil)))) (.nil))) (.nil))) (.nil))) (.nil)))) (.cons 12 [9, 7, 6, 5, 3, 1, 0] (.ev (.cons 2 [9, 7, 6, 5, 3] (.ev (.cons 4 [9, 7, 6, 5] (.ev (.cons 8 [9, 5] (.ev (.cons 10 [5] (.take 11 (.ev (.cons 13 [] (.done) (.nil)))) (.nil))) (.nil))) (.nil))) (.nil))) (.nil))))))))))), [], ⟨by kernel_rfl, by kernel_rfl, by kernel_rfl, by kernel_rfl⟩, ?_⟩
  refine drw_meet [(11, .box 11 0)] [(11, .box [.str r0, .str s0, .str a2, .str b2, .str r1, .str s1]), (9, .box [.int .i64 0])] ?_ ?_
  · (conv => whnf); (try simp only [Nat.zero_add])
    repeat' (first | exact V.wk | ((first | refine V.s1 ?_ | ((with_reducible refine recheck_and ?_ ?_); (focus ((conv => whnf); (try simp only [Nat.zero_add]); (repeat (refine V.s1 ?_; (try simp only [Nat.zero_add]))); exact ⟨rfl⟩)); (conv => whnf)) | ((try ((with_reducible refine .ext ?_); (conv => whnf); (try simp only [Nat.zero_add]))); (with_reducible refine call_intro (r := ?_) ?_ ?_); rotate_left; (focus (first | exact (m1) | exact (d1) | exact (m2) | exact (d2))); (conv => whnf)) | ((with_reducible refine .inl ?_); (conv => whnf); (first | refine ⟨0, _, _, ⟨Tryz.func60, rfl, rfl, Nat.le_of_ble_eq_true rfl⟩, ?_⟩ | refine ⟨0, _, _, ⟨Tryz.func59, rfl, rfl, Nat.le_of_ble_eq_true rfl⟩, ?_⟩ | refine ⟨0, _, _, ⟨Tryz.func92, rfl, rfl, Nat.le_of_ble_eq_true rfl⟩, ?_⟩); (conv => whnf))); (try simp only [Nat.zero_add])) | (refine And.intro ?_ ?_ <;> (conv => whnf); (try simp only [Nat.zero_add])))
  (conv => whnf)
  (try simp only [Nat.zero_add])
  repeat ((first | refine V.s1 ?_); (try simp only [Nat.zero_add]))
  exact Fin.of rfl
end Go.Proofs.YtfilfmadapjajaaGreatDoor
end
section
namespace Go.Proofs.YtfilfmadapjajaaGreatDoor
open Go Go.V Go.Nb
theorem po4_day {t a b c d : Rat} (ht : t ≠ 0) : d + c / t + b / (t * t) - a / (t * (t * t)) = po4 t⁻¹ (-a) b c d := by
  unfold po4
  grind
theorem po3_day {x : Rat} : Rat.divInt 287 100 * x - Rat.divInt 3 1 * (x * x) - Rat.divInt 275 1000 = po3 x (Rat.divInt (-3) 1) (Rat.divInt 287 100) (Rat.divInt (-275) 1000) := by
  have e1 : Rat.divInt (-3) 1 = - Rat.divInt 3 1 := by rw [Rat.neg_divInt]
  have e2 : Rat.divInt (-275) 1000 = - Rat.divInt 275 1000 := by rw [Rat.neg_divInt]
  unfold po3
  rw [e1, e2]
  generalize Rat.divInt 3 1 = a
  generalize Rat.divInt 275 1000 = b
  generalize Rat.divInt 287 100 = c
  grind
end Go.Proofs.YtfilfmadapjajaaGreatDoor
end
section
namespace Go.Proofs.YtfilfmadapjajaaGreatDoor
open Go Go.V Go.Nb
theorem rday_no (k : Int) (h : k < 4000 ∨ 25000 < k) : Called Tryz.prog 30 [.int .i64 k] (.tup [.agg [.str [], .str []], .agg [.str [], .str []], .int .i64 2]) := by
  refine called_of_run tbOk 6 ⟨Tryz.func30, rfl, rfl, Nat.le_of_ble_eq_true rfl⟩ ?_
  (conv => whnf)
  (conv => whnf)
  (try simp only [Nat.zero_add])
  repeat ((first | refine V.s1 ?_); (try simp only [Nat.zero_add]))
  refine Cnd.split (CondB.mk (fun hq => ?_) (fun hq => ?_))
  · (conv => whnf)
    (try simp only [Nat.zero_add])
    repeat ((first | refine V.s1 ?_); (try simp only [Nat.zero_add]))
    exact Fin.of rfl
  · exfalso
    simp at hq
    omega
theorem rday_low (k : Int) (hk : 4000 ≤ k ∧ k ≤ 25000) (h7 : k ≤ 7000) (a0 a1 b0 b1 c0 c1 d0 d1 t0 t1 i0 i1 j0 j1 l0 l1 m0 m1 n0 n1 o0 o1 p0 p1 q0 q1 r0 r1 s0 s1 u0 u1 v0 v1 w0 w1 x0 x1 y0 y1 z0 z1 : List UInt8)
    (oa : Called Tryz.prog 42 [.int .i64 244063, .int .i64 1000000] (.agg [.str a0, .str a1]))
    (ob : Called Tryz.prog 42 [.int .i64 9911, .int .i64 100] (.agg [.str b0, .str b1]))
    (oc : Called Tryz.prog 42 [.int .i64 2967800, .int .i64 1] (.agg [.str c0, .str c1]))
    (od : Called Tryz.prog 42 [.int .i64 4607000000, .int .i64 1] (.agg [.str d0, .str d1]))
    (ot : Called Tryz.prog 42 [.int .i64 k, .int .i64 1] (.agg [.str t0, .str t1]))
    (cx0 : Called Tryz.prog 94 [.agg [.str b0, .str b1], .agg [.str t0, .str t1]] (.tup [.agg [.str i0, .str i1], .int .i64 0]))
    (cx1 : Called Tryz.prog 93 [.agg [.str a0, .str a1], .agg [.str i0, .str i1]] (.tup [.agg [.str j0, .str j1], .int .i64 0]))
    (cx2 : Called Tryz.prog 95 [.agg [.str t0, .str t1], .agg [.str t0, .str t1]] (.tup [.agg [.str l0, .str l1], .int .i64 0]))
    (cx3 : Called Tryz.prog 94 [.agg [.str c0, .str c1], .agg [.str l0, .str l1]] (.tup [.agg [.str m0, .str m1], .int .i64 0]))
    (cx4 : Called Tryz.prog 93 [.agg [.str j0, .str j1], .agg [.str m0, .str m1]] (.tup [.agg [.str n0, .str n1], .int .i64 0]))
    (cx5 : Called Tryz.prog 95 [.agg [.str t0, .str t1], .agg [.str l0, .str l1]] (.tup [.agg [.str o0, .str o1], .int .i64 0]))
    (cx6 : Called Tryz.prog 94 [.agg [.str d0, .str d1], .agg [.str o0, .str o1]] (.tup [.agg [.str p0, .str p1], .int .i64 0]))
    (cx7 : Called Tryz.prog 91 [.agg [.str n0, .str n1], .agg [.str p0, .str p1]] (.tup [.agg [.str q0, .str q1], .int .i64 0]))
    (o7 : Called Tryz.prog 42 [.int .i64 287, .int .i64 100] (.agg [.str r0, .str r1]))
    (o3 : Called Tryz.prog 42 [.int .i64 3, .int .i64 1] (.agg [.str s0, .str s1]))
    (o5 : Called Tryz.prog 42 [.int .i64 275, .int .i64 1000] (.agg [.str u0, .str u1]))
    (cy0 : Called Tryz.prog 95 [.agg [.str r0, .str r1], .agg [.str q0, .str q1]] (.tup [.agg [.str v0, .str v1], .int .i64 0]))
    (cy1 : Called Tryz.prog 95 [.agg [.str q0, .str q1], .agg [.str q0, .str q1]] (.tup [.agg [.str w0, .str w1], .int .i64 0]))
    (cy2 : Called Tryz.prog 95 [.agg [.str s0, .str s1], .agg [.str w0, .str w1]] (.tup [.agg [.str x0, .str x1], .int .i64 0]))
    (cy3 : Called Tryz.prog 91 [.agg [.str v0, .str v1], .agg [.str x0, .str x1]] (.tup [.agg [.str y0, .str y1], .int .i64 0]))
    (cy4 : Called Tryz.prog 91 [.agg [.str y0, .str y1], .agg [.str u0, .str u1]] (.tup [.agg [.str z0, .str z1], .int .i64 0])) :
    Called Tryz.prog 30 [.int .i64 k] (.tup [.agg [.str q0, .str q1], .agg [.str z0, .str z1], .int .i64 0]) := by
  refine called_of_run tbOk 6 ⟨Tryz.func30, rfl, rfl, Nat.le_of_ble_eq_true rfl⟩ ?_
  (conv => whnf)
  (conv => whnf)
  (try simp only [Nat.zero_add])
  repeat ((first | refine V.s1 ?_); (try simp only [Nat.zero_add]))
  refine Cnd.split (CondB.mk (fun hq => ?_) (fun hq => ?_))
  · exfalso
    simp at hq
    omega
  (conv => whnf)
  (try simp only [Nat.zero_add])
  repeat ((first | refine V.s1 ?_ | ((try ((with_reducible refine .ext ?_); (conv => whnf); (try simp only [Nat.zero_add]))); (with_reducible refine call_intro (r := ?_) ?_ ?_); rotate_left; (focus (first | exact (oa) | exact (ob) | exact (oc) | exact (od) | exact (ot))); (conv => whnf))); (try simp only [Nat.zero_add]))
  refine Cnd.split (CondB.mk (fun hq2 => ?_) (fun hq2 => ?_))
  · exfalso
    simp at hq2
    omega
  (conv => whnf)
  (try simp only [Nat.zero_add])
  repeat ((first | refine V.s1 ?_ | ((try ((with_reducible refine .ext ?_); (conv => whnf); (try simp only [Nat.zero_add]))); (with_reducible refine call_intro (r := ?_) ?_ ?_); rotate_left; (focus (first | exact (oa) | exact (ob) | exact (oc) | exact (od) | exact (ot))); (conv => whnf))); (try simp only [Nat.zero_add]))
  refine ⟨(.take 0 (.take 1 (.take 2 (.ev (.cons 3 [0] (.ev (.cons 4 [] (.ev (.cons 5 [] (.ev (.cons 6 [] (.done) (.nil))) (.nil))) (.cons 5 [0] (.ev (.cons 4 [] (.ev (.cons 6 [] (.done) (.nil))) (.nil))) (.nil)))) (.cons 5 [2, 1, 0] (.ev (.cons 3 [0] (.ev (.cons 4 [] (.ev (.cons 6 [] (.done) (.nil))) (.nil))) (.nil))) (.nil))))))), [], ⟨by kernel_rfl, by kernel_rfl, by kernel_rfl, by kernel_rfl⟩, ?_⟩
  refine drw_meet [(11, .box 11 0)] [(11, .box [.str j0, .str j1]), (9, .box [.int .i64 0])] ?_ ?_
  · (conv => whnf); (try simp only [Nat.zero_add])
    repeat' (first | exact V.wk | ((with_reducible refine And.intro ?_ draw_nil); (conv => whnf); (try simp only [Nat.zero_add])) | ((with_reducible first | refine draw_split ?_ ?_ | refine nds_split ?_ ?_) <;> (conv => whnf); (try simp only [Nat.zero_add])) | ((first | refine V.s1 ?_ | ((with_reducible refine recheck_and ?_ ?_); (focus ((conv => whnf); (try simp only [Nat.zero_add]); (repeat (refine V.s1 ?_; (try simp only [Nat.zero_add]))); exact ⟨rfl⟩)); (conv => whnf)) | ((try ((with_reducible refine .ext ?_); (conv => whnf); (try simp only [Nat.zero_add]))); (with_reducible refine call_intro (r := ?_) ?_ ?_); rotate_left; (focus (first | exact (cx0) | exact (cx1))); (conv => whnf)) | ((with_reducible refine .inl ?_); (conv => whnf); (first | refine ⟨0, _, _, ⟨Tryz.func59, rfl, rfl, Nat.le_of_ble_eq_true rfl⟩, ?_⟩ | refine ⟨0, _, _, ⟨Tryz.func58, rfl, rfl, Nat.le_of_ble_eq_true rfl⟩, ?_⟩ | refine ⟨0, _, _, ⟨Tryz.func92, rfl, rfl, Nat.le_of_ble_eq_true rfl⟩, ?_⟩); (conv => whnf))); (try simp only [Nat.zero_add])) | (refine And.intro ?_ ?_ <;> (conv => whnf); (try simp only [Nat.zero_add])))
  (conv => whnf)
  (try simp only [Nat.zero_add])
  repeat ((first | refine V.s1 ?_); (try simp only [Nat.zero_add]))
  refine ⟨(.take 0 (.take 1 (.take 2 (.take 3 (.ev (.cons 4 [1, 0] (.ev (.cons 5 [0] (.ev (.cons 6 [] (.ev (.cons 7 [] (.done) (.nil))) (.nil))) (.nil))) (.nil))))))), [], ⟨by kernel_rfl, by kernel_rfl, by kernel_rfl, by kernel_rfl⟩, ?_⟩
  refine drw_meet [] [(11, .box [.str n0, .str n1]), (9, .box [.int .i64 0])] ?_ ?_
  · (conv => whnf); (try simp only [Nat.zero_add])
    repeat' (first | exact V.wk | ((with_reducible refine And.intro ?_ draw_nil); (conv => whnf); (try simp only [Nat.zero_add])) | ((with_reducible first | refine draw_split ?_ ?_ | refine nds_split ?_ ?_) <;> (conv => whnf); (try simp only [Nat.zero_add])) | ((first | refine V.s1 ?_ | ((with_reducible refine recheck_and ?_ ?_); (focus ((conv => whnf); (try simp only [Nat.zero_add]); (repeat (refine V.s1 ?_; (try simp only [Nat.zero_add]))); exact ⟨rfl⟩)); (conv => whnf)) | ((try ((with_reducible refine .ext ?_); (conv => whnf); (try simp only [Nat.zero_add]))); (with_reducible refine call_intro (r := ?_) ?_ ?_); rotate_left; (focus (first | exact (cx2) | exact (cx3) | exact (cx4))); (conv => whnf)) | ((with_reducible refine .inl ?_); (conv => whnf); (first | refine ⟨0, _, _, ⟨Tryz.func59, rfl, rfl, Nat.le_of_ble_eq_true rfl⟩, ?_⟩ | refine ⟨0, _, _, ⟨Tryz.func58, rfl, rfl, Nat.le_of_ble_eq_true rfl⟩, ?_⟩ | refine ⟨0, _, _, ⟨Tryz.func60, rfl, rfl, Nat.le_of_ble_eq_true rfl⟩, ?_⟩ | refine ⟨0, _, _, ⟨Tryz.func92, rfl, rfl, Nat.le_of_ble_eq_true rfl⟩, ?_⟩); (conv => whnf))); (try simp only [Nat.zero_add])) | (refine And.intro ?_ ?_ <;> (conv => whnf); (try simp only [Nat.zero_add])))
  (conv => whnf)
  (try simp only [Nat.zero_add])
  repeat ((first | refine V.s1 ?_); (try simp only [Nat.zero_add]))
  refine ⟨(.take 0 (.take 1 (.take 2 (.take 3 (.take 4 (.ev (.cons 5 [2, 1, 0] (.ev (.cons 6 [1, 0] (.ev (.cons 7 [0] (.ev (.cons 8 [] (.ev (.cons 9 [] (.done) (.nil))) (.nil))) (.nil))) (.nil))) (.nil)))))))), [], ⟨by kernel_rfl, by kernel_rfl, by kernel_rfl, by kernel_rfl⟩, ?_⟩
  refine drw_meet [] [(11, .box [.str q0, .str q1]), (9, .box [.int .i64 0])] ?_ ?_
  · (conv => whnf); (try simp only [Nat.zero_add])
    repeat' (first | exact V.wk | ((with_reducible refine And.intro ?_ draw_nil); (conv => whnf); (try simp only [Nat.zero_add])) | ((with_reducible first | refine draw_split ?_ ?_ | refine nds_split ?_ ?_) <;> (conv => whnf); (try simp only [Nat.zero_add])) | ((first | refine V.s1 ?_ | ((with_reducible refine recheck_and ?_ ?_); (focus ((conv => whnf); (try simp only [Nat.zero_add]); (repeat (refine V.s1 ?_; (try simp only [Nat.zero_add]))); exact ⟨rfl⟩)); (conv => whnf)) | ((try ((with_reducible refine .ext ?_); (conv => whnf); (try simp only [Nat.zero_add]))); (with_reducible refine call_intro (r := ?_) ?_ ?_); rotate_left; (focus (first | exact (cx2) | exact (cx5) | exact (cx6) | exact (cx7))); (conv => whnf)) | ((with_reducible refine .inl ?_); (conv => whnf); (first | refine ⟨0, _, _, ⟨Tryz.func59, rfl, rfl, Nat.le_of_ble_eq_true rfl⟩, ?_⟩ | refine ⟨0, _, _, ⟨Tryz.func57, rfl, rfl, Nat.le_of_ble_eq_true rfl⟩, ?_⟩ | refine ⟨0, _, _, ⟨Tryz.func60, rfl, rfl, Nat.le_of_ble_eq_true rfl⟩, ?_⟩ | refine ⟨0, _, _, ⟨Tryz.func92, rfl, rfl, Nat.le_of_ble_eq_true rfl⟩, ?_⟩); (conv => whnf))); (try simp only [Nat.zero_add])) | (refine And.intro ?_ ?_ <;> (conv => whnf); (try simp only [Nat.zero_add])))
  (conv => whnf)
  (try simp only [Nat.zero_add])
  repeat ((first | refine V.s1 ?_); (try simp only [Nat.zero_add]))
  refine ⟨(.take 1 (.ev (.cons 0 [1] (.ev (.cons 2 [] (.ev (.cons 3 [] (.ev (.cons 4 [] (.done) (.nil))) (.nil))) (.cons 3 [1] (.ev (.cons 2 [] (.ev (.cons 4 [] (.done) (.nil))) (.nil))) (.nil)))) (.cons 3 [1] (.ev (.cons 0 [1] (.ev (.cons 2 [] (.ev (.cons 4 [] (.done) (.nil))) (.nil))) (.nil))) (.nil))))), [], ⟨by kernel_rfl, by kernel_rfl, by kernel_rfl, by kernel_rfl⟩, ?_⟩
  refine drw_meet [(12, .box 12 0)] [(12, .box [.str v0, .str v1]), (9, .box [.int .i64 0])] ?_ ?_
  · (conv => whnf); (try simp only [Nat.zero_add])
    repeat' (first | exact V.wk | ((with_reducible refine And.intro ?_ draw_nil); (conv => whnf); (try simp only [Nat.zero_add])) | ((with_reducible first | refine draw_split ?_ ?_ | refine nds_split ?_ ?_) <;> (conv => whnf); (try simp only [Nat.zero_add])) | ((first | refine V.s1 ?_ | ((with_reducible refine recheck_and ?_ ?_); (focus ((conv => whnf); (try simp only [Nat.zero_add]); (repeat (refine V.s1 ?_; (try simp only [Nat.zero_add]))); exact ⟨rfl⟩)); (conv => whnf)) | ((try ((with_reducible refine .ext ?_); (conv => whnf); (try simp only [Nat.zero_add]))); (with_reducible refine call_intro (r := ?_) ?_ ?_); rotate_left; (focus (first | exact (o7) | exact (cy0))); (conv => whnf)) | ((with_reducible refine .inl ?_); (conv => whnf); (first | refine ⟨0, _, _, ⟨Tryz.func60, rfl, rfl, Nat.le_of_ble_eq_true rfl⟩, ?_⟩ | refine ⟨0, _, _, ⟨Tryz.func92, rfl, rfl, Nat.le_of_ble_eq_true rfl⟩, ?_⟩); (conv => whnf))); (try simp only [Nat.zero_add])) | (refine And.intro ?_ ?_ <;> (conv => whnf); (try simp only [Nat.zero_add])))
  (conv => whnf)
  (try simp only [Nat.zero_add])
  repeat ((first | refine V.s1 ?_); (try simp only [Nat.zero_add]))
  refine ⟨(.take 0 (.take 2 (.take 3 (.ev (.cons 1 [3, 2, 0] (.ev (.cons 4 [0] (.ev (.cons 5 [0] (.ev (.cons 6 [] (.ev (.cons 7 [] (.done) (.nil))) (.nil))) (.nil))) (.nil))) (.nil)))))), [], ⟨by kernel_rfl, by kernel_rfl, by kernel_rfl, by kernel_rfl⟩, ?_⟩
  refine drw_meet [] [(12, .box [.str y0, .str y1]), (9, .box [.int .i64 0])] ?_ ?_
  · (conv => whnf); (try simp only [Nat.zero_add])
    repeat' (first | exact V.wk | ((with_reducible refine And.intro ?_ draw_nil); (conv => whnf); (try simp only [Nat.zero_add])) | ((with_reducible first | refine draw_split ?_ ?_ | refine nds_split ?_ ?_) <;> (conv => whnf); (try simp only [Nat.zero_add])) | ((first | refine V.s1 ?_ | ((with_reducible refine recheck_and ?_ ?_); (focus ((conv => whnf); (try simp only [Nat.zero_add]); (repeat (refine V.s1 ?_; (try simp only [Nat.zero_add]))); exact ⟨rfl⟩)); (conv => whnf)) | ((try ((with_reducible refine .ext ?_); (conv => whnf); (try simp only [Nat.zero_add]))); (with_reducible refine call_intro (r := ?_) ?_ ?_); rotate_left; (focus (first | exact (o3) | exact (cy1) | exact (cy2) | exact (cy3))); (conv => whnf)) | ((with_reducible refine .inl ?_); (conv => whnf); (first | refine ⟨0, _, _, ⟨Tryz.func60, rfl, rfl, Nat.le_of_ble_eq_true rfl⟩, ?_⟩ | refine ⟨0, _, _, ⟨Tryz.func57, rfl, rfl, Nat.le_of_ble_eq_true rfl⟩, ?_⟩ | refine ⟨0, _, _, ⟨Tryz.func92, rfl, rfl, Nat.le_of_ble_eq_true rfl⟩, ?_⟩); (conv => whnf))); (try simp only [Nat.zero_add])) | (refine And.intro ?_ ?_ <;> (conv => whnf); (try simp only [Nat.zero_add])))
  (conv => whnf)
  (try simp only [Nat.zero_add])
  repeat ((first | refine V.s1 ?_); (try simp only [Nat.zero_add]))
  refine ⟨(.take 0 (.ev (.cons 1 [0] (.ev (.cons 2 [] (.ev (.cons 3 [] (.done) (.nil))) (.nil))) (.nil)))), [], ⟨by kernel_rfl, by kernel_rfl, by kernel_rfl, by kernel_rfl⟩, ?_⟩
  refine drw_meet [] [(12, .box [.str z0, .str z1]), (9, .box [.int .i64 0])] ?_ ?_
  · (conv => whnf); (try simp only [Nat.zero_add])
    repeat' (first | exact V.wk | ((with_reducible refine And.intro ?_ draw_nil); (conv => whnf); (try simp only [Nat.zero_add])) | ((with_reducible first | refine draw_split ?_ ?_ | refine nds_split ?_ ?_) <;> (conv => whnf); (try simp only [Nat.zero_add])) | ((first | refine V.s1 ?_ | ((with_reducible refine recheck_and ?_ ?_); (focus ((conv => whnf); (try simp only [Nat.zero_add]); (repeat (refine V.s1 ?_; (try simp only [Nat.zero_add]))); exact ⟨rfl⟩)); (conv => whnf)) | ((try ((with_reducible refine .ext ?_); (conv => whnf); (try simp only [Nat.zero_add]))); (with_reducible refine call_intro (r := ?_) ?_ ?_); rotate_left; (focus (first | exact (o5) | exact (cy4))); (conv => whnf)) | ((with_reducible refine .inl ?_); (conv => whnf); (first | refine ⟨0, _, _, ⟨Tryz.func57, rfl, rfl, Nat.le_of_ble_eq_true rfl⟩, ?_⟩ | refine ⟨0, _, _, ⟨Tryz.func92, rfl, rfl, Nat.le_of_ble_eq_true rfl⟩, ?_⟩); (conv => whnf))); (try simp only [Nat.zero_add])) | (refine And.intro ?_ ?_ <;> (conv => whnf); (try simp only [Nat.zero_add])))
  (conv => whnf)
  (try simp only [Nat.zero_add])
  repeat ((first | refine V.s1 ?_); (try simp only [Nat.zero_add]))
  refine ⟨(.take 0 (.take 1 (.ev (.cons 2 [1] (.ev (.cons 3 [] (.take 4 (.done)) (.nil))) (.nil))))), [], ⟨by kernel_rfl, by kernel_rfl, by kernel_rfl, by kernel_rfl⟩, ?_⟩
  refine drw_meet [(4, .int .i64 0)] [(2, .box [.str q0, .str q1]), (3, .box [.str z0, .str z1])] ?_ ?_
  · (conv => whnf); (try simp only [Nat.zero_add])
    repeat' (first | exact V.wk | ((with_reducible refine And.intro ?_ draw_nil); (conv => whnf); (try simp only [Nat.zero_add])) | ((with_reducible first | refine draw_split ?_ ?_ | refine nds_split ?_ ?_) <;> (conv => whnf); (try simp only [Nat.zero_add])) | ((first | refine V.s1 ?_ | ((with_reducible refine recheck_and ?_ ?_); (focus ((conv => whnf); (try simp only [Nat.zero_add]); (repeat (refine V.s1 ?_; (try simp only [Nat.zero_add]))); exact ⟨rfl⟩)); (conv => whnf))); (try simp only [Nat.zero_add])) | (refine And.intro ?_ ?_ <;> (conv => whnf); (try simp only [Nat.zero_add])))
  (conv => whnf)
  (try simp only [Nat.zero_add])
  repeat ((first | refine V.s1 ?_); (try simp only [Nat.zero_add]))
  exact Fin.of rfl
theorem rday_high (k : Int) (hk : 4000 ≤ k ∧ k ≤ 25000) (h7 : 7000 < k) (a0 a1 b0 b1 c0 c1 d0 d1 e0 e1 f0 f1 g0 g1 h0 h1 t0 t1 i0 i1 j0 j1 l0 l1 m0 m1 n0 n1 o0 o1 p0 p1 q0 q1 r0 r1 s0 s1 u0 u1 v0 v1 w0 w1 x0 x1 y0 y1 z0 z1 : List UInt8)
    (oa : Called Tryz.prog 42 [.int .i64 244063, .int .i64 1000000] (.agg [.str a0, .str a1]))
    (ob : Called Tryz.prog 42 [.int .i64 9911, .int .i64 100] (.agg [.str b0, .str b1]))
    (oc : Called Tryz.prog 42 [.int .i64 2967800, .int .i64 1] (.agg [.str c0, .str c1]))
    (od : Called Tryz.prog 42 [.int .i64 4607000000, .int .i64 1] (.agg [.str d0, .str d1]))
    (oe : Called Tryz.prog 42 [.int .i64 23704, .int .i64 100000] (.agg [.str e0, .str e1]))
    (of' : Called Tryz.prog 42 [.int .i64 24748, .int .i64 100] (.agg [.str f0, .str f1]))
    (og : Called Tryz.prog 42 [.int .i64 1901800, .int .i64 1] (.agg [.str g0, .str g1]))
    (oh : Called Tryz.prog 42 [.int .i64 2006400000, .int .i64 1] (.agg [.str h0, .str h1]))
    (ot : Called Tryz.prog 42 [.int .i64 k, .int .i64 1] (.agg [.str t0, .str t1]))
    (cx0 : Called Tryz.prog 94 [.agg [.str f0, .str f1], .agg [.str t0, .str t1]] (.tup [.agg [.str i0, .str i1], .int .i64 0]))
    (cx1 : Called Tryz.prog 93 [.agg [.str e0, .str e1], .agg [.str i0, .str i1]] (.tup [.agg [.str j0, .str j1], .int .i64 0]))
    (cx2 : Called Tryz.prog 95 [.agg [.str t0, .str t1], .agg [.str t0, .str t1]] (.tup [.agg [.str l0, .str l1], .int .i64 0]))
    (cx3 : Called Tryz.prog 94 [.agg [.str g0, .str g1], .agg [.str l0, .str l1]] (.tup [.agg [.str m0, .str m1], .int .i64 0]))
    (cx4 : Called Tryz.prog 93 [.agg [.str j0, .str j1], .agg [.str m0, .str m1]] (.tup [.agg [.str n0, .str n1], .int .i64 0]))
    (cx5 : Called Tryz.prog 95 [.agg [.str t0, .str t1], .agg [.str l0, .str l1]] (.tup [.agg [.str o0, .str o1], .int .i64 0]))
    (cx6 : Called Tryz.prog 94 [.agg [.str h0, .str h1], .agg [.str o0, .str o1]] (.tup [.agg [.str p0, .str p1], .int .i64 0]))
    (cx7 : Called Tryz.prog 91 [.agg [.str n0, .str n1], .agg [.str p0, .str p1]] (.tup [.agg [.str q0, .str q1], .int .i64 0]))
    (o7 : Called Tryz.prog 42 [.int .i64 287, .int .i64 100] (.agg [.str r0, .str r1]))
    (o3 : Called Tryz.prog 42 [.int .i64 3, .int .i64 1] (.agg [.str s0, .str s1]))
    (o5 : Called Tryz.prog 42 [.int .i64 275, .int .i64 1000] (.agg [.str u0, .str u1]))
    (cy0 : Called Tryz.prog 95 [.agg [.str r0, .str r1], .agg [.str q0, .str q1]] (.tup [.agg [.str v0, .str v1], .int .i64 0]))
    (cy1 : Called Tryz.prog 95 [.agg [.str q0, .str q1], .agg [.str q0, .str q1]] (.tup [.agg [.str w0, .str w1], .int .i64 0]))
    (cy2 : Called Tryz.prog 95 [.agg [.str s0, .str s1], .agg [.str w0, .str w1]] (.tup [.agg [.str x0, .str x1], .int .i64 0]))
    (cy3 : Called Tryz.prog 91 [.agg [.str v0, .str v1], .agg [.str x0, .str x1]] (.tup [.agg [.str y0, .str y1], .int .i64 0]))
    (cy4 : Called Tryz.prog 91 [.agg [.str y0, .str y1], .agg [.str u0, .str u1]] (.tup [.agg [.str z0, .str z1], .int .i64 0])) :
    Called Tryz.prog 30 [.int .i64 k] (.tup [.agg [.str q0, .str q1], .agg [.str z0, .str z1], .int .i64 0]) := by
  refine called_of_run tbOk 6 ⟨Tryz.func30, rfl, rfl, Nat.le_of_ble_eq_true rfl⟩ ?_
  (conv => whnf)
  (conv => whnf)
  (try simp only [Nat.zero_add])
  repeat ((first | refine V.s1 ?_); (try simp only [Nat.zero_add]))
  refine Cnd.split (CondB.mk (fun hq => ?_) (fun hq => ?_))
  · exfalso
    simp at hq
    omega
  (conv => whnf)
  (try simp only [Nat.zero_add])
  repeat ((first | refine V.s1 ?_ | ((try ((with_reducible refine .ext ?_); (conv => whnf); (try simp only [Nat.zero_add]))); (with_reducible refine call_intro (r := ?_) ?_ ?_); rotate_left; (focus (first | exact (oa) | exact (ob) | exact (oc) | exact (od) | exact (oe) | exact (of') | exact (og) | exact (oh) | exact (ot))); (conv => whnf))); (try simp only [Nat.zero_add]))
  refine Cnd.split (CondB.mk (fun hq2 => ?_) (fun hq2 => ?_))
  · (conv => whnf)
    (try simp only [Nat.zero_add])
    repeat ((first | refine V.s1 ?_ | ((try ((with_reducible refine .ext ?_); (conv => whnf); (try simp only [Nat.zero_add]))); (with_reducible refine call_intro (r := ?_) ?_ ?_); rotate_left; (focus (first | exact (oa) | exact (ob) | exact (oc) | exact (od) | exact (oe) | exact (of') | exact (og) | exact (oh) | exact (ot))); (conv => whnf))); (try simp only [Nat.zero_add]))
    refine ⟨(.take 0 (.take 1 (.take 2 (.ev (.cons 3 [0] (.ev (.cons 4 [] (.ev (.cons 5 [] (.ev (.cons 6 [] (.done) (.nil))) (.nil))) (.cons 5 [0] (.ev (.cons 4 [] (.ev (.cons 6 [] (.done) (.nil))) (.nil))) (.nil)))) (.cons 5 [2, 1, 0] (.ev (.cons 3 [0] (.ev (.cons 4 [] (.ev (.cons 6 [] (.done) (.nil))) (.nil))) (.nil))) (.nil))))))), [], ⟨by kernel_rfl, by kernel_rfl, by kernel_rfl, by kernel_rfl⟩, ?_⟩
    refine drw_meet [(11, .box 11 0)] [(11, .box [.str j0, .str j1]), (9, .box [.int .i64 0])] ?_ ?_
    · (conv => whnf); (try simp only [Nat.zero_add])
      repeat' (first | exact V.wk | ((with_reducible refine And.intro ?_ draw_nil); (conv => whnf); (try simp only [Nat.zero_add])) | ((with_reducible first | refine draw_split ?_ ?_ | refine nds_split ?_ ?_) <;> (conv => whnf); (try simp only [Nat.zero_add])) | ((first | refine V.s1 ?_ | ((with_reducible refine recheck_and ?_ ?_); (focus ((conv => whnf); (try simp only [Nat.zero_add]); (repeat (refine V.s1 ?_; (try simp only [Nat.zero_add]))); exact ⟨rfl⟩)); (conv => whnf)) | ((try ((with_reducible refine .ext ?_); (conv => whnf); (try simp only [Nat.zero_add]))); (with_reducible refine call_intro (r := ?_) ?_ ?_); rotate_left; (focus (first | exact (cx0) | exact (cx1))); (conv => whnf)) | ((with_reducible refine .inl ?_); (conv => whnf); (first | refine ⟨0, _, _, ⟨Tryz.func59, rfl, rfl, Nat.le_of_ble_eq_true rfl⟩, ?_⟩ | refine ⟨0, _, _, ⟨Tryz.func58, rfl, rfl, Nat.le_of_ble_eq_true rfl⟩, ?_⟩ | refine ⟨0, _, _, ⟨Tryz.func92, rfl, rfl, Nat.le_of_ble_eq_true rfl⟩, ?_⟩); (conv => whnf))); (try simp only [Nat.zero_add])) | (refine And.intro ?_ ?_ <;> (conv => whnf); (try simp only [Nat.zero_add])))
    (conv => whnf)
    (try simp only [Nat.zero_add])
    repeat ((first | refine V.s1 ?_); (try simp only [Nat.zero_add]))
    refine ⟨(.take 0 (.take 1 (.take 2 (.take 3 (.ev (.cons 4 [1, 0] (.ev (.cons 5 [0] (.ev (.cons 6 [] (.ev (.cons 7 [] (.done) (.nil))) (.nil))) (.nil))) (.nil))))))), [], ⟨by kernel_rfl, by kernel_rfl, by kernel_rfl, by kernel_rfl⟩, ?_⟩
    refine drw_meet [] [(11, .box [.str n0, .str n1]), (9, .box [.int .i64 0])] ?_ ?_
    · (conv => whnf); (try simp only [Nat.zero_add])
      repeat' (first | exact V.wk | ((with_reducible refine And.intro ?_ draw_nil); (conv => whnf); (try simp only [Nat.zero_add])) | ((with_reducible first | refine draw_split ?_ ?_ | refine nds_split ?_ ?_) <;> (conv => whnf); (try simp only [Nat.zero_add])) | ((first | refine V.s1 ?_ | ((with_reducible refine recheck_and ?_ ?_); (focus ((conv => whnf); (try simp only [Nat.zero_add]); (repeat (refine V.s1 ?_; (try simp only [Nat.zero_add]))); exact ⟨rfl⟩)); (conv => whnf)) | ((try ((with_reducible refine .ext ?_); (conv => whnf); (try simp only [Nat.zero_add]))); (with_reducible refine call_intro (r := ?_) ?_ ?_); rotate_left; (focus (first | exact (cx2) | exact (cx3) | exact (cx4))); (conv => whnf)) | ((with_reducible refine .inl ?_); (conv => whnf); (first | refine ⟨0, _, _, ⟨Tryz.func59, rfl, rfl, Nat.le_of_ble_eq_true rfl⟩, ?_⟩ | refine ⟨0, _, _, ⟨Tryz.func58, rfl, rfl, Nat.le_of_ble_eq_true rfl⟩, ?_⟩ | refine ⟨0, _, _, ⟨Tryz.func60, rfl, rfl, Nat.le_of_ble_eq_true rfl⟩, ?_⟩ | refine ⟨0, _, _, ⟨Tryz.func92, rfl, rfl, Nat.le_of_ble_eq_true rfl⟩, ?_⟩); (conv => whnf))); (try simp only [Nat.zero_add])) | (refine And.intro ?_ ?_ <;> (conv => whnf); (try simp only [Nat.zero_add])))
    (conv => whnf)
    (try simp only [Nat.zero_add])
    repeat ((first | refine V.s1 ?_); (try simp only [Nat.zero_add]))
    refine ⟨(.take 0 (.take 1 (.take 2 (.take 3 (.take 4 (.ev (.cons 5 [2, 1, 0] (.ev (.cons 6 [1, 0] (.ev (.cons 7 [0] (.ev (.cons 8 [] (.ev (.cons 9 [] (.done) (.nil))) (.nil))) (.nil))) (.nil))) (.nil)))))))), [], ⟨by kernel_rfl, by kernel_rfl, by kernel_rfl, by kernel_rfl⟩, ?_⟩
    refine drw_meet [] [(11, .box [.str q0, .str q1]), (9, .box [.int .i64 0])] ?_ ?_
    · (conv => whnf); (try simp only [Nat.zero_add])
      repeat' (first | exact V.wk | ((with_reducible refine And.intro ?_ draw_nil); (conv => whnf); (try simp only [Nat.zero_add])) | ((with_reducible first | refine draw_split ?_ ?_ | refine nds_split ?_ ?_) <;> (conv => whnf); (try simp only [Nat.zero_add])) | ((first | refine V.s1 ?_ | ((with_reducible refine recheck_and ?_ ?_); (focus ((conv => whnf); (try simp only [Nat.zero_add]); (repeat (refine V.s1 ?_; (try simp only [Nat.zero_add]))); exact ⟨rfl⟩)); (conv => whnf)) | ((try ((with_reducible refine .ext ?_); (conv => whnf); (try simp only [Nat.zero_add]))); (with_reducible refine call_intro (r := ?_) ?_ ?_); rotate_left; (focus (first | exact (cx2) | exact (cx5) | exact (cx6) | exact (cx7))); (conv => whnf)) | ((with_reducible refine .inl ?_); (conv => whnf); (first | refine ⟨0, _, _, ⟨Tryz.func59, rfl, rfl, Nat.le_of_ble_eq_true rfl⟩, ?_⟩ | refine ⟨0, _, _, ⟨Tryz.func57, rfl, rfl, Nat.le_of_ble_eq_true rfl⟩, ?_⟩ | refine ⟨0, _, _, ⟨Tryz.func60, rfl, rfl, Nat.le_of_ble_eq_true rfl⟩, ?_⟩ | refine ⟨0, _, _, ⟨Tryz.func92, rfl, rfl, Nat.le_of_ble_eq_true rfl⟩, ?_⟩); (conv => whnf))); (try simp only [Nat.zero_add])) | (refine And.intro ?_ ?_ <;> (conv => whnf); (try simp only [Nat.zero_add])))
    (conv => whnf)
    (try simp only [Nat.zero_add])
    repeat ((first | refine V.s1 ?_); (try simp only [Nat.zero_add]))
    refine ⟨(.take 1 (.ev (.cons 0 [1] (.ev (.cons 2 [] (.ev (.cons 3 [] (.ev (.cons 4 [] (.done) (.nil))) (.nil))) (.cons 3 [1] (.ev (.cons 2 [] (.ev (.cons 4 [] (.done) (.nil))) (.nil))) (.nil)))) (.cons 3 [1] (.ev (.cons 0 [1] (.ev (.cons 2 [] (.ev (.cons 4 [] (.done) (.nil))) (.nil))) (.nil))) (.nil))))), [], ⟨by kernel_rfl, by kernel_rfl, by kernel_rfl, by kernel_rfl⟩, ?_⟩
    refine drw_meet [(12, .box 12 0)] [(12, .box [.str v0, .str v1]), (9, .box [.int .i64 0])] ?_ ?_
    · (conv => whnf); (try simp only [Nat.zero_add])
      repeat' (first | exact V.wk | ((with_reducible refine And.intro ?_ draw_nil); (conv => whnf); (try simp only [Nat.zero_add])) | ((with_reducible first | refine draw_split ?_ ?_ | refine nds_split ?_ ?_) <;> (conv => whnf); (try simp only [Nat.zero_add])) | ((first | refine V.s1 ?_ | ((with_reducible refine recheck_and ?_ ?_); (focus ((conv => whnf); (try simp only [Nat.zero_add]); (repeat (refine V.s1 ?_; (try simp only [Nat.zero_add]))); exact ⟨rfl⟩)); (conv => whnf)) | ((try ((with_reducible refine .ext ?_); (conv => whnf); (try simp only [Nat.zero_add]))); (with_reducible refine call_intro (r := ?_) ?_ ?_); rotate_left; (focus (first | exact (o7) | exact (cy0))); (conv => whnf)) | ((with_reducible refine .inl ?_); (conv => whnf); (first | refine ⟨0, _, _, ⟨Tryz.func60, rfl, rfl, Nat.le_of_ble_eq_true rfl⟩, ?_⟩ | refine ⟨0, _, _, ⟨Tryz.func92, rfl, rfl, Nat.le_of_ble_eq_true rfl⟩, ?_⟩); (conv => whnf))); (try simp only [Nat.zero_add])) | (refine And.intro ?_ ?_ <;> (conv => whnf); (try simp only [Nat.zero_add])))
    (conv => whnf)
    (try simp only [Nat.zero_add])
    repeat ((first | refine V.s1 ?_); (try simp only [Nat.zero_add]))
    refine ⟨(.take 0 (.take 2 (.take 3 (.ev (.cons 1 [3, 2, 0] (.ev (.cons 4 [0] (.ev (.cons 5 [0] (.ev (.cons 6 [] (.ev (.cons 7 [] (.done) (.nil))) (.nil))) (.nil))) (.nil))) (.nil)))))), [], ⟨by kernel_rfl, by kernel_rfl, by kernel_rfl, by kernel_rfl⟩, ?_⟩
    refine drw_meet [] [(12, .box [.str y0, .str y1]), (9, .box [.int .i64 0])] ?_ ?_
    · (conv => whnf); (try simp only [Nat.zero_add])
      repeat' (first | exact V.wk | ((with_reducible refine And.intro ?_ draw_nil); (conv => whnf); (try simp only [Nat.zero_add])) | ((with_reducible first | refine draw_split ?_ ?_ | refine nds_split ?_ ?_) <;> (conv => whnf); (try simp only [Nat.zero_add])) | ((first | refine V.s1 ?_ | ((with_reducible refine recheck_and ?_ ?_); (focus ((conv => whnf); (try simp only [Nat.zero_add]); (repeat (refine V.s1 ?_; (try simp only [Nat.zero_add]))); exact ⟨rfl⟩)); (conv => whnf)) | ((try ((with_reducible refine .ext ?_); (conv => whnf); (try simp only [Nat.zero_add]))); (with_reducible refine call_intro (r := ?_) ?_ ?_); rotate_left; (focus (first | exact (o3) | exact (cy1) | exact (cy2) | exact (cy3))); (conv => whnf)) | ((with_reducible refine .inl ?_); (conv => whnf); (first | refine ⟨0, _, _, ⟨Tryz.func60, rfl, rfl, Nat.le_of_ble_eq_true rfl⟩, ?_⟩ | refine ⟨0, _, _, ⟨Tryz.func57, rfl, rfl, Nat.le_of_ble_eq_true rfl⟩, ?_⟩ | refine ⟨0, _, _, ⟨Tryz.func92, rfl, rfl, Nat.le_of_ble_eq_true rfl⟩, ?_⟩); (conv => whnf))); (try simp only [Nat.zero_add])) | (refine And.intro ?_ ?_ <;> (conv => whnf); (try simp only [Nat.zero_add])))
    (conv => whnf)
    (try simp only [Nat.zero_add])
    repeat ((first | refine V.s1 ?_); (try simp only [Nat.zero_add]))
    refine ⟨(.take 0 (.ev (.cons 1 [0] (.ev (.cons 2 [] (.ev (.cons 3 [] (.done) (.nil))) (.nil))) (.nil)))), [], ⟨by kernel_rfl, by kernel_rfl, by kernel_rfl, by kernel_rfl⟩, ?_⟩
    refine drw_meet [] [(12, .box [.str z0, .str z1]), (9, .box [.int .i64 0])] ?_ ?_
    · (conv => whnf); (try simp only [Nat.zero_add])
      repeat' (first | exact V.wk | ((with_reducible refine And.intro ?_ draw_nil); (conv => whnf); (try simp only [Nat.zero_add])) | ((with_reducible first | refine draw_split ?_ ?_ | refine nds_split ?_ ?_) <;> (conv => whnf); (try simp only [Nat.zero_add])) | ((first | refine V.s1 ?_ | ((with_reducible refine recheck_and ?_ ?_); (focus ((conv => whnf); (try simp only [Nat.zero_add]); (repeat (refine V.s1 ?_; (try simp only [Nat.zero_add]))); exact ⟨rfl⟩)); (conv => whnf)) | ((try ((with_reducible refine .ext ?_); (conv => whnf); (try simp only [Nat.zero_add]))); (with_reducible refine call_intro (r := ?_) ?_ ?_); rotate_left; (focus (first | exact (o5) | exact (cy4))); (conv => whnf)) | ((with_reducible refine .inl ?_); (conv => whnf); (first | refine ⟨0, _, _, ⟨Tryz.func57, rfl, rfl, Nat.le_of_ble_eq_true rfl⟩, ?_⟩ | refine ⟨0, _, _, ⟨Tryz.func92, rfl, rfl, Nat.le_of_ble_eq_true rfl⟩, ?_⟩); (conv => whnf))); (try simp only [Nat.zero_add])) | (refine And.intro ?_ ?_ <;> (conv => whnf); (try simp only [Nat.zero_add])))
    (conv => whnf)
    (try simp only [Nat.zero_add])
    repeat ((first | refine V.s1 ?_); (try simp only [Nat.zero_add]))
    refine ⟨(.take 0 (.take 1 (.ev (.cons 2 [1] (.ev (.cons 3 [] (.take 4 (.done)) (.nil))) (.nil))))), [], ⟨by kernel_rfl, by kernel_rfl, by kernel_rfl, by kernel_rfl⟩, ?_⟩
    refine drw_meet [(4, .int .i64 0)] [(2, .box [.str q0, .str q1]), (3, .box [.str z0, .str z1])] ?_ ?_
    · (conv => whnf); (try simp only [Nat.zero_add])
      repeat' (first | exact V.wk | ((with_reducible refine And.intro ?_ draw_nil); (conv => whnf); (try simp only [Nat.zero_add])) | ((with_reducible first | refine draw_split ?_ ?_ | refine nds_split ?_ ?_) <;> (conv => whnf); (try simp only [Nat.zero_add])) | ((first | refine V.s1 ?_ | ((with_reducible refine recheck_and ?_ ?_); (focus ((conv => whnf); (try simp only [Nat.zero_add]); (repeat (refine V.s1 ?_; (try simp only [Nat.zero_add]))); exact ⟨rfl⟩)); (conv => whnf))); (try simp only [Nat.zero_add])) | (refine And.intro ?_ ?_ <;> (conv => whnf); (try simp only [Nat.zero_add])))
    (conv => whnf)
    (try simp only [Nat.zero_add])
    repeat ((first | refine V.s1 ?_); (try simp only [Nat.zero_add]))
    exact Fin.of rfl
  · exfalso
    simp at hq2
    omega
end Go.Proofs.YtfilfmadapjajaaGreatDoor
end
section
namespace Go.Proofs.YtfilfmadapjajaaGreatDoor
open Go Go.V Go.Nb
theorem num_int {k : Int} : (Rat.divInt k 1).num = k := by
  rw [Rat.num_divInt]
  simp
theorem inv_int {k : Int} : (Rat.divInt k 1)⁻¹ = Rat.divInt 1 k := by rw [Rat.inv_divInt]
theorem rday_c (k : Int) : Called Tryz.prog 30 [.int .i64 k] (dayX k) := by
  unfold dayX
  by_cases h : k < 4000 ∨ 25000 < k
  · rw [if_pos h]
    exact rday_no k h
  rw [if_neg h]
  have ft : Fq 5 (Rat.divInt k 1) := by
    have := fq_divInt (n := 5) (x := k) (d := 1) (by omega) (by omega) (by omega)
    exact this
  have n0 : (Rat.divInt k 1).num ≠ 0 := by rw [num_int]; omega
  have t0 : Rat.divInt k 1 ≠ 0 := fun e => n0 (Rat.num_eq_zero.2 e)
  have n2 : (Rat.divInt k 1 * Rat.divInt k 1).num ≠ 0 := fun e => by
    have := Rat.num_eq_zero.1 e
    rcases Rat.mul_eq_zero.1 this with e | e <;> exact t0 e
  have n3 : (Rat.divInt k 1 * (Rat.divInt k 1 * Rat.divInt k 1)).num ≠ 0 := fun e => by
    have := Rat.num_eq_zero.1 e
    rcases Rat.mul_eq_zero.1 this with e | e
    · exact t0 e
    · rcases Rat.mul_eq_zero.1 e with e | e <;> exact t0 e
  have fx := fq_dayX (k := k) (by omega)
  have g1 : Fq 10 (Rat.divInt 287 100) := fq10 (by omega) (by omega)
  have g2 : Fq 10 (Rat.divInt 3 1) := fq10 (by omega) (by omega)
  have g3 : Fq 10 (Rat.divInt 275 1000) := fq10 (by omega) (by omega)
  have l0 := zrmul g1 fx (by omega) (by omega) (by omega)
  have l1 := zrmul fx fx (by omega) (by omega) (by omega)
  have l2 := zrmul g2 (fx.mul fx) (by omega) (by omega) (by omega)
  have l3 := zrsub (g1.mul fx) (g2.mul (fx.mul fx)) (by omega) (by omega) (by omega)
  have l4 := zrsub ((g1.mul fx).sub (g2.mul (fx.mul fx))) g3 (by omega) (by omega) (by omega)
  rw [po3_day] at l4
  have q1 := r23of (n := 287) (m := 100) (by omega) (by omega)
  have q2 := r23of (n := 3) (m := 1) (by omega) (by omega)
  have q3 := r23of (n := 275) (m := 1000) (by omega) (by omega)
  have ot := r23of (n := k) (m := 1) (by omega) (by omega)
  have oa := r23of (n := 244063) (m := 1000000) (by omega) (by omega)
  have ob := r23of (n := 9911) (m := 100) (by omega) (by omega)
  have oc := r23of (n := 2967800) (m := 1) (by omega) (by omega)
  have od := r23of (n := 4607000000) (m := 1) (by omega) (by omega)
  unfold x2E txD xT dayYQ
  dsimp only
  unfold frT at q1 q2 q3 ot oa ob oc od l0 l1 l2 l3 l4
  by_cases hk : k ≤ 7000
  · have hif : ∀ a b : Rat, (if k ≤ 7000 then a else b) = a := fun a b => if_pos hk
    have fa : Fq 10 (Rat.divInt 244063 1000000) := fq10 (by omega) (by omega)
    have fb : Fq 10 (Rat.divInt 9911 100) := fq10 (by omega) (by omega)
    have fc : Fq 10 (Rat.divInt 2967800 1) := fq10 (by omega) (by omega)
    have fd : Fq 10 (Rat.divInt 4607000000 1) := fq10 (by omega) (by omega)
    have hx : Rat.divInt 244063 1000000 + Rat.divInt 9911 100 / Rat.divInt k 1 + Rat.divInt 2967800 1 / (Rat.divInt k 1 * Rat.divInt k 1) - Rat.divInt 4607000000 1 / (Rat.divInt k 1 * (Rat.divInt k 1 * Rat.divInt k 1)) = dayXQ k := by
      rw [po4_day t0, inv_int]
      unfold dayXQ
      rw [hif, Rat.neg_divInt]
      done
    have k0 := zrdiv fb ft n0 (by omega) (by omega) (by omega)
    have k1 := zradd fa (fb.div ft n0) (by omega) (by omega) (by omega)
    have k2 := zrmul ft ft (by omega) (by omega) (by omega)
    have k3 := zrdiv fc (ft.mul ft) n2 (by omega) (by omega) (by omega)
    have k4 := zradd (fa.add (fb.div ft n0)) (fc.div (ft.mul ft) n2) (by omega) (by omega) (by omega)
    have k5 := zrmul ft (ft.mul ft) (by omega) (by omega) (by omega)
    have k6 := zrdiv fd (ft.mul (ft.mul ft)) n3 (by omega) (by omega) (by omega)
    have k7 := zrsub ((fa.add (fb.div ft n0)).add (fc.div (ft.mul ft) n2)) (fd.div (ft.mul (ft.mul ft)) n3) (by omega) (by omega) (by omega)
    rw [hx] at k7
    unfold frT at k0 k1 k2 k3 k4 k5 k6 k7
    exact rday_low k (by omega) hk _ _ _ _ _ _ _ _ _ _ _ _ _ _ _ _ _ _ _ _ _ _ _ _ _ _ _ _ _ _ _ _ _ _ _ _ _ _ _ _ _ _ oa ob oc od ot k0 k1 k2 k3 k4 k5 k6 k7 q1 q2 q3 l0 l1 l2 l3 l4
  · have hif : ∀ a b : Rat, (if k ≤ 7000 then a else b) = b := fun a b => if_neg hk
    have oe := r23of (n := 23704) (m := 100000) (by omega) (by omega)
    have of' := r23of (n := 24748) (m := 100) (by omega) (by omega)
    have og := r23of (n := 1901800) (m := 1) (by omega) (by omega)
    have oh := r23of (n := 2006400000) (m := 1) (by omega) (by omega)
    have fa : Fq 10 (Rat.divInt 23704 100000) := fq10 (by omega) (by omega)
    have fb : Fq 10 (Rat.divInt 24748 100) := fq10 (by omega) (by omega)
    have fc : Fq 10 (Rat.divInt 1901800 1) := fq10 (by omega) (by omega)
    have fd : Fq 10 (Rat.divInt 2006400000 1) := fq10 (by omega) (by omega)
    have hx : Rat.divInt 23704 100000 + Rat.divInt 24748 100 / Rat.divInt k 1 + Rat.divInt 1901800 1 / (Rat.divInt k 1 * Rat.divInt k 1) - Rat.divInt 2006400000 1 / (Rat.divInt k 1 * (Rat.divInt k 1 * Rat.divInt k 1)) = dayXQ k := by
      rw [po4_day t0, inv_int]
      unfold dayXQ
      rw [hif, Rat.neg_divInt]
      done
    have k0 := zrdiv fb ft n0 (by omega) (by omega) (by omega)
    have k1 := zradd fa (fb.div ft n0) (by omega) (by omega) (by omega)
    have k2 := zrmul ft ft (by omega) (by omega) (by omega)
    have k3 := zrdiv fc (ft.mul ft) n2 (by omega) (by omega) (by omega)
    have k4 := zradd (fa.add (fb.div ft n0)) (fc.div (ft.mul ft) n2) (by omega) (by omega) (by omega)
    have k5 := zrmul ft (ft.mul ft) (by omega) (by omega) (by omega)
    have k6 := zrdiv fd (ft.mul (ft.mul ft)) n3 (by omega) (by omega) (by omega)
    have k7 := zrsub ((fa.add (fb.div ft n0)).add (fc.div (ft.mul ft) n2)) (fd.div (ft.mul (ft.mul ft)) n3) (by omega) (by omega) (by omega)
    rw [hx] at k7
    unfold frT at k0 k1 k2 k3 k4 k5 k6 k7 oe of' og oh
    exact rday_high k (by omega) (by omega) _ _ _ _ _ _ _ _ _ _ _ _ _ _ _ _ _ _ _ _ _ _ _ _ _ _ _ _ _ _ _ _ _ _ _ _ _ _ _ _ _ _ _ _ _ _ _ _ _ _ oa ob oc od oe of' og oh ot k0 k1 k2 k3 k4 k5 k6 k7 q1 q2 q3 l0 l1 l2 l3 l4
end Go.Proofs.YtfilfmadapjajaaGreatDoor
end
section
namespace Go.Proofs.YtfilfmadapjajaaGreatDoor
open Go Go.V Go.Nb
theorem rtemp_no (x0 x1 y0 y1 : List UInt8) (e : Int) (he : e ≠ 0) (fr : Called Tryz.prog 46 [.slf 2 2 (fun j => List.take 2 (List.drop (j * 2) [.str x0, .str x1, .str y0, .str y1]))] (.int .i64 e)) : Called Tryz.prog 32 [.agg [.str x0, .str x1], .agg [.str y0, .str y1]] (.tup [.agg [.str [], .str []], .int .i64 e]) := by
  refine called_of_run tbOk 6 ⟨Tryz.func32, rfl, rfl, Nat.le_of_ble_eq_true rfl⟩ ?_
  (conv => whnf)
  (conv => whnf)
  (try simp only [Nat.zero_add])
  repeat ((first | refine V.s1 ?_ | ((try ((with_reducible refine .ext ?_); (conv => whnf); (try simp only [Nat.zero_add]))); (with_reducible refine call_intro (r := ?_) ?_ ?_); rotate_left; (focus (first | exact (fr))); (conv => whnf))); (try simp only [Nat.zero_add]))
  refine Cnd.split (CondB.mk (fun hq => ?_) (fun hq => ?_))
  · (conv => whnf)
    (try simp only [Nat.zero_add])
    repeat ((first | refine V.s1 ?_); (try simp only [Nat.zero_add]))
    exact Fin.of rfl
  · exfalso
    simp at hq
    exact he hq
theorem rtemp_zero (x0 x1 y0 y1 p0 p1 d0 d1 : List UInt8) (gd : Int) (hd : gd = 0) (fr : Called Tryz.prog 46 [.slf 2 2 (fun j => List.take 2 (List.drop (j * 2) [.str x0, .str x1, .str y0, .str y1]))] (.int .i64 0)) (op : Called Tryz.prog 42 [.int .i64 1858, .int .i64 10000] (.agg [.str p0, .str p1])) (cs : Called Tryz.prog 91 [.agg [.str p0, .str p1], .agg [.str y0, .str y1]] (.tup [.agg [.str d0, .str d1], .int .i64 0])) (sgd : Called Tryz.prog 47 [.agg [.str d0, .str d1]] (.int .i64 gd)) :
    Called Tryz.prog 32 [.agg [.str x0, .str x1], .agg [.str y0, .str y1]] (.tup [.agg [.str [], .str []], .int .i64 7]) := by
  refine called_of_run tbOk 6 ⟨Tryz.func32, rfl, rfl, Nat.le_of_ble_eq_true rfl⟩ ?_
  (conv => whnf)
  (conv => whnf)
  (try simp only [Nat.zero_add])
  repeat ((first | refine V.s1 ?_ | ((try ((with_reducible refine .ext ?_); (conv => whnf); (try simp only [Nat.zero_add]))); (with_reducible refine call_intro (r := ?_) ?_ ?_); rotate_left; (focus (first | exact (fr))); (conv => whnf))); (try simp only [Nat.zero_add]))
  refine ⟨(.take 1 (.ev (.cons 0 [1] (.ev (.cons 2 [] (.ev (.cons 3 [] (.ev (.cons 4 [] (.done) (.nil))) (.nil))) (.cons 3 [1] (.ev (.cons 2 [] (.ev (.cons 4 [] (.done) (.nil))) (.nil))) (.nil)))) (.cons 3 [1] (.ev (.cons 0 [1] (.ev (.cons 2 [] (.ev (.cons 4 [] (.done) (.nil))) (.nil))) (.nil))) (.nil))))), [], ⟨by kernel_rfl, by kernel_rfl, by kernel_rfl, by kernel_rfl⟩, ?_⟩
  refine drw_meet [(8, .box 8 0)] [(8, .box [.str d0, .str d1]), (7, .box [.int .i64 0])] ?_ ?_
  · (conv => whnf); (try simp only [Nat.zero_add])
    repeat' (first | exact V.wk | ((with_reducible refine And.intro ?_ draw_nil); (conv => whnf); (try simp only [Nat.zero_add])) | ((with_reducible first | refine draw_split ?_ ?_ | refine nds_split ?_ ?_) <;> (conv => whnf); (try simp only [Nat.zero_add])) | ((first | refine V.s1 ?_ | ((with_reducible refine recheck_and ?_ ?_); (focus ((conv => whnf); (try simp only [Nat.zero_add]); (repeat (refine V.s1 ?_; (try simp only [Nat.zero_add]))); exact ⟨rfl⟩)); (conv => whnf)) | ((try ((with_reducible refine .ext ?_); (conv => whnf); (try simp only [Nat.zero_add]))); (with_reducible refine call_intro (r := ?_) ?_ ?_); rotate_left; (focus (first | exact (op) | exact (cs))); (conv => whnf)) | ((with_reducible refine .inl ?_); (conv => whnf); (first | refine ⟨0, _, _, ⟨Tryz.func57, rfl, rfl, Nat.le_of_ble_eq_true rfl⟩, ?_⟩ | refine ⟨0, _, _, ⟨Tryz.func92, rfl, rfl, Nat.le_of_ble_eq_true rfl⟩, ?_⟩); (conv => whnf))); (try simp only [Nat.zero_add])) | (refine And.intro ?_ ?_ <;> (conv => whnf); (try simp only [Nat.zero_add])))
  (conv => whnf)
  (try simp only [Nat.zero_add])
  repeat ((first | refine V.s1 ?_ | ((try ((with_reducible refine .ext ?_); (conv => whnf); (try simp only [Nat.zero_add]))); (with_reducible refine call_intro (r := ?_) ?_ ?_); rotate_left; (focus (first | exact (sgd))); (conv => whnf))); (try simp only [Nat.zero_add]))
  refine Cnd.split (CondB.mk (fun hq => ?_) (fun hq => ?_))
  · (conv => whnf)
    (try simp only [Nat.zero_add])
    repeat ((first | refine V.s1 ?_); (try simp only [Nat.zero_add]))
    exact Fin.of rfl
  · exfalso
    simp at hq
    exact hq hd
theorem rtemp_ok (x0 x1 y0 y1 p0 p1 d0 d1 k0 k1 a0 a1 b0 b1 f0 f1 h0 h1 s0 s1 n0 n1 m0 m1 c0 c1 u0 u1 e0 e1 v0 v1 g0 g1 w0 w1 z0 z1 : List UInt8) (gd : Int) (hd : ¬ gd = 0) (fr : Called Tryz.prog 46 [.slf 2 2 (fun j => List.take 2 (List.drop (j * 2) [.str x0, .str x1, .str y0, .str y1]))] (.int .i64 0)) (op : Called Tryz.prog 42 [.int .i64 1858, .int .i64 10000] (.agg [.str p0, .str p1])) (cs : Called Tryz.prog 91 [.agg [.str p0, .str p1], .agg [.str y0, .str y1]] (.tup [.agg [.str d0, .str d1], .int .i64 0])) (sgd : Called Tryz.prog 47 [.agg [.str d0, .str d1]] (.int .i64 gd))
    (ok : Called Tryz.prog 42 [.int .i64 332, .int .i64 1000] (.agg [.str k0, .str k1]))
    (oa : Called Tryz.prog 42 [.int .i64 449, .int .i64 1] (.agg [.str a0, .str a1]))
    (ob : Called Tryz.prog 42 [.int .i64 3525, .int .i64 1] (.agg [.str b0, .str b1]))
    (of' : Called Tryz.prog 42 [.int .i64 68233, .int .i64 10] (.agg [.str f0, .str f1]))
    (oh : Called Tryz.prog 42 [.int .i64 552033, .int .i64 100] (.agg [.str h0, .str h1]))
    (t0 : Called Tryz.prog 91 [.agg [.str x0, .str x1], .agg [.str k0, .str k1]] (.tup [.agg [.str s0, .str s1], .int .i64 0]))
    (t1 : Called Tryz.prog 94 [.agg [.str s0, .str s1], .agg [.str d0, .str d1]] (.tup [.agg [.str n0, .str n1], .int .i64 0]))
    (t2 : Called Tryz.prog 95 [.agg [.str n0, .str n1], .agg [.str n0, .str n1]] (.tup [.agg [.str m0, .str m1], .int .i64 0]))
    (t3 : Called Tryz.prog 95 [.agg [.str n0, .str n1], .agg [.str m0, .str m1]] (.tup [.agg [.str c0, .str c1], .int .i64 0]))
    (t4 : Called Tryz.prog 95 [.agg [.str a0, .str a1], .agg [.str c0, .str c1]] (.tup [.agg [.str u0, .str u1], .int .i64 0]))
    (t5 : Called Tryz.prog 95 [.agg [.str b0, .str b1], .agg [.str m0, .str m1]] (.tup [.agg [.str e0, .str e1], .int .i64 0]))
    (t6 : Called Tryz.prog 93 [.agg [.str u0, .str u1], .agg [.str e0, .str e1]] (.tup [.agg [.str v0, .str v1], .int .i64 0]))
    (t7 : Called Tryz.prog 95 [.agg [.str f0, .str f1], .agg [.str n0, .str n1]] (.tup [.agg [.str g0, .str g1], .int .i64 0]))
    (t8 : Called Tryz.prog 93 [.agg [.str v0, .str v1], .agg [.str g0, .str g1]] (.tup [.agg [.str w0, .str w1], .int .i64 0]))
    (t9 : Called Tryz.prog 93 [.agg [.str w0, .str w1], .agg [.str h0, .str h1]] (.tup [.agg [.str z0, .str z1], .int .i64 0])) :
    Called Tryz.prog 32 [.agg [.str x0, .str x1], .agg [.str y0, .str y1]] (.tup [.agg [.str z0, .str z1], .int .i64 0]) := by
  refine called_of_run tbOk 6 ⟨Tryz.func32, rfl, rfl, Nat.le_of_ble_eq_true rfl⟩ ?_
  (conv => whnf)
  (conv => whnf)
  (try simp only [Nat.zero_add])
  repeat ((first | refine V.s1 ?_ | ((try ((with_reducible refine .ext ?_); (conv => whnf); (try simp only [Nat.zero_add]))); (with_reducible refine call_intro (r := ?_) ?_ ?_); rotate_left; (focus (first | exact (fr))); (conv => whnf))); (try simp only [Nat.zero_add]))
  refine ⟨(.take 1 (.ev (.cons 0 [1] (.ev (.cons 2 [] (.ev (.cons 3 [] (.ev (.cons 4 [] (.done) (.nil))) (.nil))) (.cons 3 [1] (.ev (.cons 2 [] (.ev (.cons 4 [] (.done) (.nil))) (.nil))) (.nil)))) (.cons 3 [1] (.ev (.cons 0 [1] (.ev (.cons 2 [] (.ev (.cons 4 [] (.done) (.nil))) (.nil))) (.nil))) (.nil))))), [], ⟨by kernel_rfl, by kernel_rfl, by kernel_rfl, by kernel_rfl⟩, ?_⟩
  refine drw_meet [(8, .box 8 0)] [(8, .box [.str d0, .str d1]), (7, .box [.int .i64 0])] ?_ ?_
  · (conv => whnf); (try simp only [Nat.zero_add])
    repeat' (first | exact V.wk | ((with_reducible refine And.intro ?_ draw_nil); (conv => whnf); (try simp only [Nat.zero_add])) | ((with_reducible first | refine draw_split ?_ ?_ | refine nds_split ?_ ?_) <;> (conv => whnf); (try simp only [Nat.zero_add])) | ((first | refine V.s1 ?_ | ((with_reducible refine recheck_and ?_ ?_); (focus ((conv => whnf); (try simp only [Nat.zero_add]); (repeat (refine V.s1 ?_; (try simp only [Nat.zero_add]))); exact ⟨rfl⟩)); (conv => whnf)) | ((try ((with_reducible refine .ext ?_); (conv => whnf); (try simp only [Nat.zero_add]))); (with_reducible refine call_intro (r := ?_) ?_ ?_); rotate_left; (focus (first | exact (op) | exact (cs))); (conv => whnf)) | ((with_reducible refine .inl ?_); (conv => whnf); (first | refine ⟨0, _, _, ⟨Tryz.func57, rfl, rfl, Nat.le_of_ble_eq_true rfl⟩, ?_⟩ | refine ⟨0, _, _, ⟨Tryz.func92, rfl, rfl, Nat.le_of_ble_eq_true rfl⟩, ?_⟩); (conv => whnf))); (try simp only [Nat.zero_add])) | (refine And.intro ?_ ?_ <;> (conv => whnf); (try simp only [Nat.zero_add])))
  (conv => whnf)
  (try simp only [Nat.zero_add])
  repeat ((first | refine V.s1 ?_ | ((try ((with_reducible refine .ext ?_); (conv => whnf); (try simp only [Nat.zero_add]))); (with_reducible refine call_intro (r := ?_) ?_ ?_); rotate_left; (focus (first | exact (sgd))); (conv => whnf))); (try simp only [Nat.zero_add]))
  refine Cnd.split (CondB.mk (fun hq => ?_) (fun hq => ?_))
  · exfalso
    simp at hq
    exact hd hq
  (conv => whnf)
  (try simp only [Nat.zero_add])
  repeat ((first | refine V.s1 ?_); (try simp only [Nat.zero_add]))
  refine ⟨(.take 0 (.take 3 (.ev (.cons 1 [3, 0] (.ev (.cons 2 [3] (.ev (.cons 4 [] (.ev (.cons 5 [] (.ev (.cons 6 [] (.done) (.nil))) (.nil))) (.cons 5 [3] (.ev (.cons 4 [] (.ev (.cons 6 [] (.done) (.nil))) (.nil))) (.nil)))) (.cons 5 [3, 0] (.ev (.cons 2 [3] (.ev (.cons 4 [] (.ev (.cons 6 [] (.done) (.nil))) (.nil))) (.nil))) (.nil)))) (.cons 5 [3, 0] (.ev (.cons 1 [3, 0] (.ev (.cons 2 [3] (.ev (.cons 4 [] (.ev (.cons 6 [] (.done) (.nil))) (.nil))) (.nil))) (.nil))) (.nil)))))), [], ⟨by kernel_rfl, by kernel_rfl, by kernel_rfl, by kernel_rfl⟩, ?_⟩
  refine drw_meet [(9, .box 9 0)] [(9, .box [.str n0, .str n1]), (7, .box [.int .i64 0])] ?_ ?_
  · (conv => whnf); (try simp only [Nat.zero_add])
    repeat' (first | exact V.wk | ((with_reducible refine And.intro ?_ draw_nil); (conv => whnf); (try simp only [Nat.zero_add])) | ((with_reducible first | refine draw_split ?_ ?_ | refine nds_split ?_ ?_) <;> (conv => whnf); (try simp only [Nat.zero_add])) | ((first | refine V.s1 ?_ | ((with_reducible refine recheck_and ?_ ?_); (focus ((conv => whnf); (try simp only [Nat.zero_add]); (repeat (refine V.s1 ?_; (try simp only [Nat.zero_add]))); exact ⟨rfl⟩)); (conv => whnf)) | ((try ((with_reducible refine .ext ?_); (conv => whnf); (try simp only [Nat.zero_add]))); (with_reducible refine call_intro (r := ?_) ?_ ?_); rotate_left; (focus (first | exact (ok) | exact (t0) | exact (t1))); (conv => whnf)) | ((with_reducible refine .inl ?_); (conv => whnf); (first | refine ⟨0, _, _, ⟨Tryz.func57, rfl, rfl, Nat.le_of_ble_eq_true rfl⟩, ?_⟩ | refine ⟨0, _, _, ⟨Tryz.func59, rfl, rfl, Nat.le_of_ble_eq_true rfl⟩, ?_⟩ | refine ⟨0, _, _, ⟨Tryz.func92, rfl, rfl, Nat.le_of_ble_eq_true rfl⟩, ?_⟩); (conv => whnf))); (try simp only [Nat.zero_add])) | (refine And.intro ?_ ?_ <;> (conv => whnf); (try simp only [Nat.zero_add])))
  (conv => whnf)
  (try simp only [Nat.zero_add])
  repeat ((first | refine V.s1 ?_); (try simp only [Nat.zero_add]))
  refine ⟨(.take 1 (.take 2 (.take 3 (.ev (.cons 0 [3, 2, 1] (.ev (.cons 4 [1] (.ev (.cons 5 [] (.ev (.cons 6 [] (.ev (.cons 7 [] (.ev (.cons 8 [] (.done) (.nil))) (.nil))) (.cons 7 [] (.ev (.cons 6 [] (.ev (.cons 8 [] (.done) (.nil))) (.nil))) (.nil)))) (.cons 7 [1] (.ev (.cons 5 [] (.ev (.cons 6 [] (.ev (.cons 8 [] (.done) (.nil))) (.nil))) (.nil))) (.nil)))) (.cons 7 [3, 2, 1] (.ev (.cons 4 [1] (.ev (.cons 5 [] (.ev (.cons 6 [] (.ev (.cons 8 [] (.done) (.nil))) (.nil))) (.nil))) (.nil))) (.nil)))) (.cons 7 [3, 2, 1] (.ev (.cons 0 [3, 2, 1] (.ev (.cons 4 [1] (.ev (.cons 5 [] (.ev (.cons 6 [] (.ev (.cons 8 [] (.done) (.nil))) (.nil))) (.nil))) (.nil))) (.nil))) (.nil))))))), [], ⟨by kernel_rfl, by kernel_rfl, by kernel_rfl, by kernel_rfl⟩, ?_⟩
  refine drw_meet [(10, .box 10 0)] [(10, .box [.str u0, .str u1]), (7, .box [.int .i64 0])] ?_ ?_
  · (conv => whnf); (try simp only [Nat.zero_add])
    repeat' (first | exact V.wk | ((with_reducible refine And.intro ?_ draw_nil); (conv => whnf); (try simp only [Nat.zero_add])) | ((with_reducible first | refine draw_split ?_ ?_ | refine nds_split ?_ ?_) <;> (conv => whnf); (try simp only [Nat.zero_add])) | ((first | refine V.s1 ?_ | ((with_reducible refine recheck_and ?_ ?_); (focus ((conv => whnf); (try simp only [Nat.zero_add]); (repeat (refine V.s1 ?_; (try simp only [Nat.zero_add]))); exact ⟨rfl⟩)); (conv => whnf)) | ((try ((with_reducible refine .ext ?_); (conv => whnf); (try simp only [Nat.zero_add]))); (with_reducible refine call_intro (r := ?_) ?_ ?_); rotate_left; (focus (first | exact (oa) | exact (t2) | exact (t3) | exact (t4))); (conv => whnf)) | ((with_reducible refine .inl ?_); (conv => whnf); (first | refine ⟨0, _, _, ⟨Tryz.func60, rfl, rfl, Nat.le_of_ble_eq_true rfl⟩, ?_⟩ | refine ⟨0, _, _, ⟨Tryz.func92, rfl, rfl, Nat.le_of_ble_eq_true rfl⟩, ?_⟩); (conv => whnf))); (try simp only [Nat.zero_add])) | (refine And.intro ?_ ?_ <;> (conv => whnf); (try simp only [Nat.zero_add])))
  (conv => whnf)
  (try simp only [Nat.zero_add])
  repeat ((first | refine V.s1 ?_); (try simp only [Nat.zero_add]))
  refine ⟨(.take 0 (.take 2 (.take 3 (.ev (.cons 1 [3, 2, 0] (.ev (.cons 4 [0] (.ev (.cons 5 [0] (.ev (.cons 6 [] (.ev (.cons 7 [] (.done) (.nil))) (.nil))) (.nil))) (.nil))) (.nil)))))), [], ⟨by kernel_rfl, by kernel_rfl, by kernel_rfl, by kernel_rfl⟩, ?_⟩
  refine drw_meet [] [(10, .box [.str v0, .str v1]), (7, .box [.int .i64 0])] ?_ ?_
  · (conv => whnf); (try simp only [Nat.zero_add])
    repeat' (first | exact V.wk | ((with_reducible refine And.intro ?_ draw_nil); (conv => whnf); (try simp only [Nat.zero_add])) | ((with_reducible first | refine draw_split ?_ ?_ | refine nds_split ?_ ?_) <;> (conv => whnf); (try simp only [Nat.zero_add])) | ((first | refine V.s1 ?_ | ((with_reducible refine recheck_and ?_ ?_); (focus ((conv => whnf); (try simp only [Nat.zero_add]); (repeat (refine V.s1 ?_; (try simp only [Nat.zero_add]))); exact ⟨rfl⟩)); (conv => whnf)) | ((try ((with_reducible refine .ext ?_); (conv => whnf); (try simp only [Nat.zero_add]))); (with_reducible refine call_intro (r := ?_) ?_ ?_); rotate_left; (focus (first | exact (ob) | exact (t2) | exact (t5) | exact (t6))); (conv => whnf)) | ((with_reducible refine .inl ?_); (conv => whnf); (first | refine ⟨0, _, _, ⟨Tryz.func60, rfl, rfl, Nat.le_of_ble_eq_true rfl⟩, ?_⟩ | refine ⟨0, _, _, ⟨Tryz.func58, rfl, rfl, Nat.le_of_ble_eq_true rfl⟩, ?_⟩ | refine ⟨0, _, _, ⟨Tryz.func92, rfl, rfl, Nat.le_of_ble_eq_true rfl⟩, ?_⟩); (conv => whnf))); (try simp only [Nat.zero_add])) | (refine And.intro ?_ ?_ <;> (conv => whnf); (try simp only [Nat.zero_add])))
  (conv => whnf)
  (try simp only [Nat.zero_add])
  repeat ((first | refine V.s1 ?_); (try simp only [Nat.zero_add]))
  refine ⟨(.take 0 (.take 2 (.ev (.cons 1 [2, 0] (.ev (.cons 3 [0] (.ev (.cons 4 [] (.ev (.cons 5 [] (.done) (.nil))) (.nil))) (.nil))) (.nil))))), [], ⟨by kernel_rfl, by kernel_rfl, by kernel_rfl, by kernel_rfl⟩, ?_⟩
  refine drw_meet [] [(10, .box [.str w0, .str w1]), (7, .box [.int .i64 0])] ?_ ?_
  · (conv => whnf); (try simp only [Nat.zero_add])
    repeat' (first | exact V.wk | ((with_reducible refine And.intro ?_ draw_nil); (conv => whnf); (try simp only [Nat.zero_add])) | ((with_reducible first | refine draw_split ?_ ?_ | refine nds_split ?_ ?_) <;> (conv => whnf); (try simp only [Nat.zero_add])) | ((first | refine V.s1 ?_ | ((with_reducible refine recheck_and ?_ ?_); (focus ((conv => whnf); (try simp only [Nat.zero_add]); (repeat (refine V.s1 ?_; (try simp only [Nat.zero_add]))); exact ⟨rfl⟩)); (conv => whnf)) | ((try ((with_reducible refine .ext ?_); (conv => whnf); (try simp only [Nat.zero_add]))); (with_reducible refine call_intro (r := ?_) ?_ ?_); rotate_left; (focus (first | exact (of') | exact (t7) | exact (t8))); (conv => whnf)) | ((with_reducible refine .inl ?_); (conv => whnf); (first | refine ⟨0, _, _, ⟨Tryz.func60, rfl, rfl, Nat.le_of_ble_eq_true rfl⟩, ?_⟩ | refine ⟨0, _, _, ⟨Tryz.func58, rfl, rfl, Nat.le_of_ble_eq_true rfl⟩, ?_⟩ | refine ⟨0, _, _, ⟨Tryz.func92, rfl, rfl, Nat.le_of_ble_eq_true rfl⟩, ?_⟩); (conv => whnf))); (try simp only [Nat.zero_add])) | (refine And.intro ?_ ?_ <;> (conv => whnf); (try simp only [Nat.zero_add])))
  (conv => whnf)
  (try simp only [Nat.zero_add])
  repeat ((first | refine V.s1 ?_); (try simp only [Nat.zero_add]))
  refine ⟨(.take 0 (.ev (.cons 1 [0] (.ev (.cons 2 [] (.ev (.cons 3 [] (.done) (.nil))) (.nil))) (.nil)))), [], ⟨by kernel_rfl, by kernel_rfl, by kernel_rfl, by kernel_rfl⟩, ?_⟩
  refine drw_meet [] [(10, .box [.str z0, .str z1]), (7, .box [.int .i64 0])] ?_ ?_
  · (conv => whnf); (try simp only [Nat.zero_add])
    repeat' (first | exact V.wk | ((with_reducible refine And.intro ?_ draw_nil); (conv => whnf); (try simp only [Nat.zero_add])) | ((with_reducible first | refine draw_split ?_ ?_ | refine nds_split ?_ ?_) <;> (conv => whnf); (try simp only [Nat.zero_add])) | ((first | refine V.s1 ?_ | ((with_reducible refine recheck_and ?_ ?_); (focus ((conv => whnf); (try simp only [Nat.zero_add]); (repeat (refine V.s1 ?_; (try simp only [Nat.zero_add]))); exact ⟨rfl⟩)); (conv => whnf)) | ((try ((with_reducible refine .ext ?_); (conv => whnf); (try simp only [Nat.zero_add]))); (with_reducible refine call_intro (r := ?_) ?_ ?_); rotate_left; (focus (first | exact (oh) | exact (t9))); (conv => whnf)) | ((with_reducible refine .inl ?_); (conv => whnf); (first | refine ⟨0, _, _, ⟨Tryz.func58, rfl, rfl, Nat.le_of_ble_eq_true rfl⟩, ?_⟩ | refine ⟨0, _, _, ⟨Tryz.func92, rfl, rfl, Nat.le_of_ble_eq_true rfl⟩, ?_⟩); (conv => whnf))); (try simp only [Nat.zero_add])) | (refine And.intro ?_ ?_ <;> (conv => whnf); (try simp only [Nat.zero_add])))
  (conv => whnf)
  (try simp only [Nat.zero_add])
  repeat ((first | refine V.s1 ?_); (try simp only [Nat.zero_add]))
  exact Fin.of rfl
end Go.Proofs.YtfilfmadapjajaaGreatDoor
end
section
namespace Go.Proofs.YtfilfmadapjajaaGreatDoor
open Go Go.V Go.Nb
theorem po4_temp {n a b c e : Rat} : a * (n * (n * n)) + b * (n * n) + c * n + e = po4 n a b c e := by
  unfold po4
  grind
theorem rtemp_c {n : Nat} {x y : Tx} (bx : BdX n x) (b_y : BdX n y) (h0 : 0 < n ∧ n ≤ 20) : Called Tryz.prog 32 [txD x, txD y] (tempX x y) := by
  have f1 := rfracs2 x.1 x.2 y.1 y.2 _ _ (rcheck_c _ _ bx.1.1 bx.1.2) (rcheck_c _ _ b_y.1.1 b_y.1.2)
  rw [fst2_ok] at f1
  change Called Tryz.prog 46 _ (.int .i64 (if okX x && okX y then 0 else 20)) at f1
  unfold tempX
  by_cases h : (okX x && okX y) = true
  · rw [if_pos h] at f1 ⊢
    simp only [Bool.and_eq_true] at h
    obtain ⟨hx, hy⟩ := h
    have qx := bx.2 hx
    have qy := b_y.2 hy
    have ex := txD_q hx
    have ey := txD_q hy
    have r : Called Tryz.prog 42 [.int .i64 1858, .int .i64 10000] (frT pole) := r23of (n := 1858) (m := 10000) (by omega) (by omega)
    have fp : Fq 10 pole := fq10 (by omega) (by omega)
    have s1 := zrsub fp qy (by omega) h0.1 (by omega)
    have fd := fp.sub qy
    have sg := rsign_t fd ⟨by omega, by omega⟩
    rw [ordQ_zero] at sg
    rw [← ey] at s1
    have hiff : (pole - qX y).num = 0 ↔ qX y = pole := by
      constructor
      · intro e
        have := Rat.num_eq_zero.1 e
        have h2 : pole - qX y + qX y = pole := by rw [Rat.sub_add_cancel]
        rw [this, Rat.zero_add] at h2
        exact h2
      · intro e
        rw [e, Rat.sub_self]
        rfl
    unfold frT at r sg
    unfold frT txD at s1
    by_cases g : qX y = pole
    · rw [if_pos g]
      exact rtemp_zero _ _ _ _ _ _ _ _ _ (by rw [sgn_eq]; exact hiff.2 g) f1 r s1 sg
    · rw [if_neg g]
      have hd : (pole - qX y).num ≠ 0 := fun e => g (hiff.1 e)
      have f3 : Fq 10 (Rat.divInt 332 1000) := fq10 (by omega) (by omega)
      have k0 := r23of (n := 332) (m := 1000) (by omega) (by omega)
      have s0 := zrsub qx f3 h0.1 (by omega) (by omega)
      have dv := zrdiv (qx.sub f3) fd hd (by omega) (by omega) (by omega)
      have fn := (qx.sub f3).div fd hd
      have t0 := r23of (n := 449) (m := 1) (by omega) (by omega)
      have t1 := r23of (n := 3525) (m := 1) (by omega) (by omega)
      have t2 := r23of (n := 68233) (m := 10) (by omega) (by omega)
      have t3 := r23of (n := 552033) (m := 100) (by omega) (by omega)
      have g0 : Fq 10 (Rat.divInt 449 1) := fq10 (by omega) (by omega)
      have g1 : Fq 10 (Rat.divInt 3525 1) := fq10 (by omega) (by omega)
      have g2 : Fq 10 (Rat.divInt 68233 10) := fq10 (by omega) (by omega)
      have g3 : Fq 10 (Rat.divInt 552033 100) := fq10 (by omega) (by omega)
      have m0 := zrmul fn fn (by omega) (by omega) (by omega)
      have m1 := zrmul fn (fn.mul fn) (by omega) (by omega) (by omega)
      have m2 := zrmul g0 (fn.mul (fn.mul fn)) (by omega) (by omega) (by omega)
      have m3 := zrmul g1 (fn.mul fn) (by omega) (by omega) (by omega)
      have m4 := zradd (g0.mul (fn.mul (fn.mul fn))) (g1.mul (fn.mul fn)) (by omega) (by omega) (by omega)
      have m5 := zrmul g2 fn (by omega) (by omega) (by omega)
      have m6 := zradd ((g0.mul (fn.mul (fn.mul fn))).add (g1.mul (fn.mul fn))) (g2.mul fn) (by omega) (by omega) (by omega)
      have m7 := zradd (((g0.mul (fn.mul (fn.mul fn))).add (g1.mul (fn.mul fn))).add (g2.mul fn)) g3 (by omega) (by omega) (by omega)
      rw [po4_temp] at m7
      rw [← ex] at s0
      unfold frT at k0 t0 t1 t2 t3 dv m0 m1 m2 m3 m4 m5 m6 m7
      unfold frT txD at s0
      exact rtemp_ok _ _ _ _ _ _ _ _ _ _ _ _ _ _ _ _ _ _ _ _ _ _ _ _ _ _ _ _ _ _ _ _ _ _ _ _ _ _ _ (by rw [sgn_eq]; exact hd) f1 r s1 sg k0 t0 t1 t2 t3 s0 dv m0 m1 m2 m3 m4 m5 m6 m7
  · rw [if_neg h] at f1 ⊢
    exact rtemp_no _ _ _ _ _ (by omega) f1
end Go.Proofs.YtfilfmadapjajaaGreatDoor
end
section
namespace Go.Proofs.YtfilfmadapjajaaGreatDoor
open Go Go.V Go.Nb
theorem kk5 : ((5 : Nat) : Int) = 5 := rfl
theorem kk6 : ((6 : Nat) : Int) = 6 := rfl
theorem kt4 : (4 : Int).toNat = 4 := rfl
theorem kt5 : (5 : Int).toNat = 5 := rfl
theorem same_c (a0 a1 b0 b1 c0 c1 : List UInt8) (e : Int) : Called Tryz.prog 21 [.agg [.str a0, .str a1, .str b0, .str b1, .str c0, .str c1], .int .i64 e, .agg [.str a0, .str a1, .str b0, .str b1, .str c0, .str c1], .int .i64 e] (.bool true) := by
  refine called_of_run tbOk 6 ⟨Tryz.func21, rfl, rfl, Nat.le_of_ble_eq_true rfl⟩ ?_
  (conv => whnf)
  refine V.st ?_
  exact Fin.of (by simp)
def Bd3 (a0 a1 b0 b1 c0 c1 : List UInt8) : Prop := BdX 20 (a0, a1) ∧ BdX 20 (b0, b1) ∧ BdX 20 (c0, c1)
theorem xT_bd' {n : Nat} {q : Rat} (h : Fq n q) (h0 : 0 < n ∧ n ≤ 20) : BdX 20 (decZ q.num, dec q.den) := (xT_bd h ⟨h0.1, by omega⟩).mono (by omega)
theorem tri_x (a b c : Int) (ha : 0 ≤ a ∧ a ≤ 65535) (hb : 0 ≤ b ∧ b ≤ 65535) (hc : 0 ≤ c ∧ c ≤ 65535) : ∃ a0 a1 b0 b1 c0 c1, Called Tryz.prog 12 [.iarr .u16 [a, b, c]] (.agg [.str a0, .str a1, .str b0, .str b1, .str c0, .str c1]) ∧ Bd3 a0 a1 b0 b1 c0 c1 :=
  ⟨_, _, _, _, _, _, tri_c a b c ha hb hc, xT_bd' (fq_colour ha) (by omega), xT_bd' (fq_colour hb) (by omega), xT_bd' (fq_colour hc) (by omega)⟩
theorem white_x (a b c : Int) (ha : 0 ≤ a ∧ a ≤ 65535) (hb : 0 ≤ b ∧ b ≤ 65535) (hc : 0 ≤ c ∧ c ≤ 65535) : ∃ a0 a1 b0 b1 c0 c1, Called Tryz.prog 13 [.iarr .u16 [a, b, c]] (.agg [.str a0, .str a1, .str b0, .str b1, .str c0, .str c1]) ∧ Bd3 a0 a1 b0 b1 c0 c1 :=
  ⟨_, _, _, _, _, _, white_c a b c ha hb hc, xT_bd' (fq_colour (by omega)) (by omega), xT_bd' (fq_colour (by omega)) (by omega), xT_bd' (fq_colour (by omega)) (by omega)⟩
theorem fq_num {n d : Int} (hn : -32768 ≤ n ∧ n ≤ 32767) (hd : 0 ≤ d ∧ d ≤ 255) : Fq 5 (numQ n d) := by
  unfold numQ
  obtain ⟨m, hm⟩ : ∃ m : Nat, 1 + d = m := ⟨(1 + d).toNat, by omega⟩
  rw [hm]
  exact fq_divInt (by omega) (by omega) (by omega)
theorem num_x (n d : Int) (hn : -32768 ≤ n ∧ n ≤ 32767) (hd : 0 ≤ d ∧ d ≤ 255) : ∃ t0 t1, Called Tryz.prog 22 [.agg [.int .i16 n, .int .u8 d]] (.agg [.str t0, .str t1]) ∧ BdX 20 (t0, t1) :=
  ⟨_, _, numFrac_c n d hn hd, xT_bd' (fq_num hn hd) (by omega)⟩
theorem share_x (n d : Int) (hn : -32768 ≤ n ∧ n ≤ 32767) (hd : 0 ≤ d ∧ d ≤ 255) : ∃ t0 t1, Called Tryz.prog 23 [.agg [.int .i16 n, .int .u8 d]] (.agg [.str t0, .str t1]) ∧ BdX 20 (t0, t1) :=
  ⟨_, _, numShare_c n d hn hd, xT_bd' (fq_share hd) (by omega)⟩
theorem odd_x (s t : List UInt8) : ∃ t0 t1, Called Tryz.prog 24 [.agg [.str s, .str t]] (.agg [.str t0, .str t1]) ∧ BdX 20 (t0, t1) :=
  ⟨_, _, oddFrac_c s t, odd_bd (by simp; omega) (by simp; omega)⟩
theorem zZ49_0 : type_of% @Nat.zero_add ∧ type_of% @tn0 ∧ type_of% @tn1 ∧ type_of% @tn2 := ⟨@Nat.zero_add, @tn0, @tn1, @tn2⟩
theorem bend_x (k : Int) (s t a0 a1 b0 b1 c0 c1 : List UInt8) (hk : 0 ≤ k ∧ k ≤ 255) (h : Bd3 a0 a1 b0 b1 c0 c1) : ∃ u0 u1 v0 v1 w0 w1, Called Tryz.prog 14 [.agg [.int .u8 k, .str s, .str t], .agg [.str a0, .str a1, .str b0, .str b1, .str c0, .str c1]] (.agg [.str u0, .str u1, .str v0, .str v1, .str w0, .str w1]) ∧ Bd3 u0 u1 v0 v1 w0 w1 := by
  obtain ⟨t0, t1, c, b⟩ := odd_x s t
  have h3 : k % 3 = 0 ∨ k % 3 = 1 ∨ k % 3 = 2 := by omega
  rcases h3 with e | e | e
  · refine ⟨t0, t1, b0, b1, c0, c1, ?_, b, h.2.1, h.2.2⟩
    refine called_of_run tbOk 6 ⟨Tryz.func14, rfl, rfl, Nat.le_of_ble_eq_true rfl⟩ ?_
    (conv => whnf)
    (conv => whnf)
    (try simp only [Nat.zero_add])
    repeat ((first | refine V.s1 ?_); (try simp only [Nat.zero_add]))
    refine ⟨(.take 0 (.take 1 (.take 2 (.take 3 (.take 4 (.ev (.cons 5 [2, 1, 0] (.take 6 (.ev (.cons 7 [] (.done) (.nil)))) (.nil)))))))), [], ⟨by kernel_rfl, by kernel_rfl, by kernel_rfl, by kernel_rfl⟩, ?_⟩
    refine drw_meet [] [(3, .box [.str t0, .str t1, .str b0, .str b1, .str c0, .str c1])] ?_ ?_
    · (conv => whnf); (try simp only [zZ49_0, e])
      repeat' (first | exact V.wk | ((with_reducible refine And.intro ?_ draw_nil); (conv => whnf); (try simp only [zZ49_0, e])) | ((with_reducible first | refine draw_split ?_ ?_ | refine nds_split ?_ ?_) <;> (conv => whnf); (try simp only [zZ49_0, e])) | ((first | refine V.s1 ?_ | ((with_reducible refine recheck_and ?_ ?_); (focus ((conv => whnf); (try simp only [zZ49_0, e]); (repeat (refine V.s1 ?_; (try simp only [zZ49_0, e]))); exact ⟨rfl⟩)); (conv => whnf)) | ((try ((with_reducible refine .ext ?_); (conv => whnf); (try simp only [zZ49_0, e]))); (with_reducible refine call_intro (r := ?_) ?_ ?_); rotate_left; (focus (first | exact (c))); (conv => whnf))); (try simp only [zZ49_0, e])) | (refine And.intro ?_ ?_ <;> (conv => whnf); (try simp only [zZ49_0, e])))
    (conv => whnf)
    (try simp only [Nat.zero_add])
    repeat ((first | refine V.s1 ?_); (try simp only [Nat.zero_add]))
    exact Fin.of rfl
  · refine ⟨a0, a1, t0, t1, c0, c1, ?_, h.1, b, h.2.2⟩
    refine called_of_run tbOk 6 ⟨Tryz.func14, rfl, rfl, Nat.le_of_ble_eq_true rfl⟩ ?_
    (conv => whnf)
    (conv => whnf)
    (try simp only [Nat.zero_add])
    repeat ((first | refine V.s1 ?_); (try simp only [Nat.zero_add]))
    refine ⟨(.take 0 (.take 1 (.take 2 (.take 3 (.take 4 (.ev (.cons 5 [2, 1, 0] (.take 6 (.ev (.cons 7 [] (.done) (.nil)))) (.nil)))))))), [], ⟨by kernel_rfl, by kernel_rfl, by kernel_rfl, by kernel_rfl⟩, ?_⟩
    refine drw_meet [] [(3, .box [.str a0, .str a1, .str t0, .str t1, .str c0, .str c1])] ?_ ?_
    · (conv => whnf); (try simp only [zZ49_0, e])
      repeat' (first | exact V.wk | ((with_reducible refine And.intro ?_ draw_nil); (conv => whnf); (try simp only [zZ49_0, e])) | ((with_reducible first | refine draw_split ?_ ?_ | refine nds_split ?_ ?_) <;> (conv => whnf); (try simp only [zZ49_0, e])) | ((first | refine V.s1 ?_ | ((with_reducible refine recheck_and ?_ ?_); (focus ((conv => whnf); (try simp only [zZ49_0, e]); (repeat (refine V.s1 ?_; (try simp only [zZ49_0, e]))); exact ⟨rfl⟩)); (conv => whnf)) | ((try ((with_reducible refine .ext ?_); (conv => whnf); (try simp only [zZ49_0, e]))); (with_reducible refine call_intro (r := ?_) ?_ ?_); rotate_left; (focus (first | exact (c))); (conv => whnf))); (try simp only [zZ49_0, e])) | (refine And.intro ?_ ?_ <;> (conv => whnf); (try simp only [zZ49_0, e])))
    (conv => whnf)
    (try simp only [Nat.zero_add])
    repeat ((first | refine V.s1 ?_); (try simp only [Nat.zero_add]))
    exact Fin.of rfl
  · refine ⟨a0, a1, b0, b1, t0, t1, ?_, h.1, h.2.1, b⟩
    refine called_of_run tbOk 6 ⟨Tryz.func14, rfl, rfl, Nat.le_of_ble_eq_true rfl⟩ ?_
    (conv => whnf)
    (conv => whnf)
    (try simp only [Nat.zero_add])
    repeat ((first | refine V.s1 ?_); (try simp only [Nat.zero_add]))
    refine ⟨(.take 0 (.take 1 (.take 2 (.take 3 (.take 4 (.ev (.cons 5 [2, 1, 0] (.take 6 (.ev (.cons 7 [] (.done) (.nil)))) (.nil)))))))), [], ⟨by kernel_rfl, by kernel_rfl, by kernel_rfl, by kernel_rfl⟩, ?_⟩
    refine drw_meet [] [(3, .box [.str a0, .str a1, .str b0, .str b1, .str t0, .str t1])] ?_ ?_
    · (conv => whnf); (try simp only [zZ49_0, e])
      repeat' (first | exact V.wk | ((with_reducible refine And.intro ?_ draw_nil); (conv => whnf); (try simp only [zZ49_0, e])) | ((with_reducible first | refine draw_split ?_ ?_ | refine nds_split ?_ ?_) <;> (conv => whnf); (try simp only [zZ49_0, e])) | ((first | refine V.s1 ?_ | ((with_reducible refine recheck_and ?_ ?_); (focus ((conv => whnf); (try simp only [zZ49_0, e]); (repeat (refine V.s1 ?_; (try simp only [zZ49_0, e]))); exact ⟨rfl⟩)); (conv => whnf)) | ((try ((with_reducible refine .ext ?_); (conv => whnf); (try simp only [zZ49_0, e]))); (with_reducible refine call_intro (r := ?_) ?_ ?_); rotate_left; (focus (first | exact (c))); (conv => whnf))); (try simp only [zZ49_0, e])) | (refine And.intro ?_ ?_ <;> (conv => whnf); (try simp only [zZ49_0, e])))
    (conv => whnf)
    (try simp only [Nat.zero_add])
    repeat ((first | refine V.s1 ?_); (try simp only [Nat.zero_add]))
    exact Fin.of rfl
end Go.Proofs.YtfilfmadapjajaaGreatDoor
end
section
namespace Go.Proofs.YtfilfmadapjajaaGreatDoor
open Go Go.V Go.Nb
theorem days_x (n : Int) (hi : InR .i64 n) : ∃ u0 u1 v0 v1 e, Called Tryz.prog 29 [.int .i64 n] (.tup [.agg [.str u0, .str u1], .agg [.str v0, .str v1], .int .i64 e]) ∧
    Called Tryz.prog 30 [.int .i64 n] (.tup [.agg [.str u0, .str u1], .agg [.str v0, .str v1], .int .i64 e]) := by
  have l := lday_c n hi
  have r := rday_c n
  have f : ∃ x y e, dayX n = x2E x y e := by
    unfold dayX
    repeat' split
    all_goals exact ⟨_, _, _, rfl⟩
  obtain ⟨x, y, e, f⟩ := f
  rw [f] at l r
  exact ⟨_, _, _, _, _, l, r⟩
theorem temp_x {a0 a1 b0 b1 : List UInt8} (ba : BdX 20 (a0, a1)) (bb : BdX 20 (b0, b1)) : ∃ u0 u1 e, Called Tryz.prog 31 [.agg [.str a0, .str a1], .agg [.str b0, .str b1]] (.tup [.agg [.str u0, .str u1], .int .i64 e]) ∧
    Called Tryz.prog 32 [.agg [.str a0, .str a1], .agg [.str b0, .str b1]] (.tup [.agg [.str u0, .str u1], .int .i64 e]) := by
  have l := ltemp_c (n := 20) (x := (a0, a1)) (y := (b0, b1)) ba bb (by omega)
  have r := rtemp_c (n := 20) (x := (a0, a1)) (y := (b0, b1)) ba bb (by omega)
  have f : ∃ x e, tempX (a0, a1) (b0, b1) = x1E x e := by
    unfold tempX
    repeat' split
    all_goals exact ⟨_, _, rfl⟩
  obtain ⟨x, e, f⟩ := f
  rw [f] at l r
  exact ⟨_, _, _, l, r⟩
end Go.Proofs.YtfilfmadapjajaaGreatDoor
end
section
namespace Go.Proofs.YtfilfmadapjajaaGreatDoor
open Go Go.V Go.Nb
theorem zZ53_0 : type_of% @Nat.zero_add ∧ type_of% @dec_refl ∧ type_of% @dec_reflz ∧ type_of% @tn0 ∧ type_of% @tn1 ∧ type_of% @tn2 := ⟨@Nat.zero_add, @dec_refl, @dec_reflz, @tn0, @tn1, @tn2⟩
theorem lightDays_c (kel m n1 d1 n2 d2 : Int) (s' t' : List UInt8) (hkel : InR .i64 kel) (hm : 0 ≤ m ∧ m ≤ 65535) (hn1 : -32768 ≤ n1 ∧ n1 ≤ 32767) (hd1 : 0 ≤ d1 ∧ d1 ≤ 255) (hn2 : -32768 ≤ n2 ∧ n2 ≤ 32767) (hd2 : 0 ≤ d2 ∧ d2 ≤ 255) :
    Called Tryz.prog 5 [.int .i64 kel, .int .u16 m, .agg [.int .i16 n1, .int .u8 d1], .agg [.int .i16 n2, .int .u8 d2], .agg [.str s', .str t']] (.bool true) := by
  obtain ⟨X0, X1, f1, bf1⟩ := num_x n1 d1 hn1 hd1
  obtain ⟨U0, U1, s1, bs1⟩ := share_x n1 d1 hn1 hd1
  obtain ⟨Y0, Y1, f2, bf2⟩ := num_x n2 d2 hn2 hd2
  obtain ⟨V0, V1, s2, bs2⟩ := share_x n2 d2 hn2 hd2
  obtain ⟨O0, O1, o, bo⟩ := odd_x s' t'
  obtain ⟨R0x0, R0x1, e0, l0, r0⟩ := temp_x bf1 bf2
  obtain ⟨R1x0, R1x1, e1, l1, r1⟩ := temp_x bs1 bs2
  obtain ⟨R2x0, R2x1, e2, l2, r2⟩ := temp_x bo bf2
  obtain ⟨R3x0, R3x1, e3, l3, r3⟩ := temp_x bf1 bo
  have em : m.tmod 21021 = m % 21021 := Int.tmod_eq_emod_of_nonneg hm.1
  obtain ⟨m', hm'⟩ : ∃ m', m % 21021 = m' := ⟨_, rfl⟩
  have bm : 0 ≤ m' ∧ m' < 21021 := by omega
  rw [hm'] at em
  obtain ⟨F0, F1, F2, F3, g0, w0, v0⟩ := days_x kel hkel
  obtain ⟨G0, G1, G2, G3, g1, w1, v1⟩ := days_x (3990 + m') (by simp [InR, V.lo, V.hi]; omega)
  clear hn1 hd1 hn2 hd2 bf1 bf2 bs1 bs2 bo
  refine called_of_run tbOk 6 ⟨Tryz.func5, rfl, rfl, Nat.le_of_ble_eq_true rfl⟩ ?_
  (conv => whnf)
  (conv => whnf)
  (try simp only [Nat.zero_add, hm'])
  repeat ((first | refine V.s1 ?_ | ((try ((with_reducible refine .ext ?_); (conv => whnf); (try simp only [Nat.zero_add, hm']))); (with_reducible refine call_intro (r := ?_) ?_ ?_); rotate_left; (focus (first | exact (works_c))); (conv => whnf))); (try simp only [Nat.zero_add, hm']))
  (conv => whnf)
  (try simp only [Nat.zero_add, hm'])
  repeat ((first | refine V.s1 ?_); (try simp only [Nat.zero_add, hm']))
  refine lp_any (0) (fun k => k ≤ 2) (fun k => 2 - k) (fun k => [(33, .int .i64 k)]) (fun k => []) ?_ ?_ ?_
  · exact V.wk
  · exact Nat.zero_le _
  intro k hk
  have hk4 : k = 0 ∨ k = 1 ∨ k = 2 := by omega
  rcases hk4 with e | e | e
  all_goals subst e
  · simp only [k0]
    (conv => whnf)
    (try simp only [zZ53_0, hm', decide_true, Bool.and_true, Bool.true_and, Bool.and_self, Bool.not_true, Bool.not_false, Bool.or_false, Bool.or_self, ne_eq, not_true_eq_false, decide_false])
    repeat ((first | refine V.s1 ?_ | ((try ((with_reducible refine .ext ?_); (conv => whnf); (try simp only [zZ53_0, hm', decide_true, Bool.and_true, Bool.true_and, Bool.and_self, Bool.not_true, Bool.not_false, Bool.or_false, Bool.or_self, ne_eq, not_true_eq_false, decide_false]))); (with_reducible refine call_intro (r := ?_) ?_ ?_); rotate_left; (focus (first | exact (w0) | exact (v0))); (conv => whnf))); (try simp only [zZ53_0, hm', decide_true, Bool.and_true, Bool.true_and, Bool.and_self, Bool.not_true, Bool.not_false, Bool.or_false, Bool.or_self, ne_eq, not_true_eq_false, decide_false]))
    exact ⟨1, by omega, by omega, V.wk⟩
  · simp only [k1]
    (conv => whnf)
    (try simp only [zZ53_0, hm', decide_true, Bool.and_true, Bool.true_and, Bool.and_self, Bool.not_true, Bool.not_false, Bool.or_false, Bool.or_self, ne_eq, not_true_eq_false, decide_false])
    repeat ((first | refine V.s1 ?_ | ((try ((with_reducible refine .ext ?_); (conv => whnf); (try simp only [zZ53_0, hm', decide_true, Bool.and_true, Bool.true_and, Bool.and_self, Bool.not_true, Bool.not_false, Bool.or_false, Bool.or_self, ne_eq, not_true_eq_false, decide_false]))); (with_reducible refine call_intro (r := ?_) ?_ ?_); rotate_left; (focus (first | exact (w1) | exact (v1))); (conv => whnf))); (try simp only [zZ53_0, hm', decide_true, Bool.and_true, Bool.true_and, Bool.and_self, Bool.not_true, Bool.not_false, Bool.or_false, Bool.or_self, ne_eq, not_true_eq_false, decide_false]))
    exact ⟨2, by omega, by omega, V.wk⟩
  · simp only [k2]
    (conv => whnf)
    (try simp only [Nat.zero_add, tn0, tn1, tn2])
    repeat ((first | refine V.s1 ?_); (try simp only [Nat.zero_add, tn0, tn1, tn2]))
    refine ⟨(.take 0 (.take 2 (.take 5 (.take 7 (.take 10 (.take 12 (.take 15 (.take 17 (.take 21 (.ev (.cons 1 [21, 17, 15, 12, 10, 7, 5, 2] (.ev (.cons 3 [21, 17, 15, 12, 10, 7, 5] (.take 4 (.ev (.cons 6 [4, 21, 17, 15, 12, 10, 7] (.ev (.cons 8 [4, 21, 17, 15, 12, 10] (.take 9 (.ev (.cons 11 [9, 4, 21, 17, 15, 12] (.ev (.cons 13 [9, 4, 21, 17, 15] (.take 14 (.ev (.cons 16 [14, 9, 4, 21, 17] (.ev (.cons 18 [14, 9, 4, 21] (.take 19 (.take 20 (.done))) (.nil))) (.nil)))) (.nil))) (.nil)))) (.nil))) (.nil)))) (.nil))) (.nil)))))))))))), [], ⟨by kernel_rfl, by kernel_rfl, by kernel_rfl, by kernel_rfl⟩, ?_⟩
    refine drw_meet [(82, .agg [.str X0, .str X1, .str Y0, .str Y1, .str U0, .str U1, .str V0, .str V1, .str O0, .str O1, .str Y0, .str Y1, .str X0, .str X1, .str O0, .str O1]), (83, .int .i64 0)] [] ?_ ?_
    · (conv => whnf); (try simp only [Nat.zero_add])
      repeat' (first | exact V.wk | ((with_reducible refine And.intro ?_ draw_nil); (conv => whnf); (try simp only [Nat.zero_add])) | ((with_reducible first | refine draw_split ?_ ?_ | refine nds_split ?_ ?_) <;> (conv => whnf); (try simp only [Nat.zero_add])) | ((first | refine V.s1 ?_ | ((with_reducible refine recheck_and ?_ ?_); (focus ((conv => whnf); (try simp only [Nat.zero_add]); (repeat (refine V.s1 ?_; (try simp only [Nat.zero_add]))); exact ⟨rfl⟩)); (conv => whnf)) | ((try ((with_reducible refine .ext ?_); (conv => whnf); (try simp only [Nat.zero_add]))); (with_reducible refine call_intro (r := ?_) ?_ ?_); rotate_left; (focus (first | exact (f1) | exact (f2) | exact (s1) | exact (s2) | exact (o))); (conv => whnf))); (try simp only [Nat.zero_add])) | (refine And.intro ?_ ?_ <;> (conv => whnf); (try simp only [Nat.zero_add])))
    (conv => whnf)
    (try simp only [Nat.zero_add, tn0, tn1, tn2])
    repeat ((first | refine V.s1 ?_); (try simp only [Nat.zero_add, tn0, tn1, tn2]))
    refine lp_any (0) (fun k => k ≤ 4) (fun k => 4 - k) (fun k => [(83, .int .i64 k)]) (fun k => []) ?_ ?_ ?_
    · exact V.wk
    · exact Nat.zero_le _
    intro k hk
    have hk4 : k = 0 ∨ k = 1 ∨ k = 2 ∨ k = 3 ∨ k = 4 := by omega
    rcases hk4 with e | e | e | e | e
    all_goals subst e
    · simp only [k0]
      (conv => whnf)
      (try simp only [zZ53_0, decide_true, Bool.and_true, Bool.true_and, Bool.and_self, Bool.not_true, Bool.not_false, Bool.or_false, Bool.or_self, ne_eq, not_true_eq_false, decide_false])
      repeat ((first | refine V.s1 ?_ | ((try ((with_reducible refine .ext ?_); (conv => whnf); (try simp only [zZ53_0, decide_true, Bool.and_true, Bool.true_and, Bool.and_self, Bool.not_true, Bool.not_false, Bool.or_false, Bool.or_self, ne_eq, not_true_eq_false, decide_false]))); (with_reducible refine call_intro (r := ?_) ?_ ?_); rotate_left; (focus (first | exact (l0) | exact (r0))); (conv => whnf))); (try simp only [zZ53_0, decide_true, Bool.and_true, Bool.true_and, Bool.and_self, Bool.not_true, Bool.not_false, Bool.or_false, Bool.or_self, ne_eq, not_true_eq_false, decide_false]))
      exact ⟨1, by omega, by omega, V.wk⟩
    · simp only [k1]
      (conv => whnf)
      (try simp only [zZ53_0, decide_true, Bool.and_true, Bool.true_and, Bool.and_self, Bool.not_true, Bool.not_false, Bool.or_false, Bool.or_self, ne_eq, not_true_eq_false, decide_false])
      repeat ((first | refine V.s1 ?_ | ((try ((with_reducible refine .ext ?_); (conv => whnf); (try simp only [zZ53_0, decide_true, Bool.and_true, Bool.true_and, Bool.and_self, Bool.not_true, Bool.not_false, Bool.or_false, Bool.or_self, ne_eq, not_true_eq_false, decide_false]))); (with_reducible refine call_intro (r := ?_) ?_ ?_); rotate_left; (focus (first | exact (l1) | exact (r1))); (conv => whnf))); (try simp only [zZ53_0, decide_true, Bool.and_true, Bool.true_and, Bool.and_self, Bool.not_true, Bool.not_false, Bool.or_false, Bool.or_self, ne_eq, not_true_eq_false, decide_false]))
      exact ⟨2, by omega, by omega, V.wk⟩
    · simp only [k2]
      (conv => whnf)
      (try simp only [zZ53_0, decide_true, Bool.and_true, Bool.true_and, Bool.and_self, Bool.not_true, Bool.not_false, Bool.or_false, Bool.or_self, ne_eq, not_true_eq_false, decide_false])
      repeat ((first | refine V.s1 ?_ | ((try ((with_reducible refine .ext ?_); (conv => whnf); (try simp only [zZ53_0, decide_true, Bool.and_true, Bool.true_and, Bool.and_self, Bool.not_true, Bool.not_false, Bool.or_false, Bool.or_self, ne_eq, not_true_eq_false, decide_false]))); (with_reducible refine call_intro (r := ?_) ?_ ?_); rotate_left; (focus (first | exact (l2) | exact (r2))); (conv => whnf))); (try simp only [zZ53_0, decide_true, Bool.and_true, Bool.true_and, Bool.and_self, Bool.not_true, Bool.not_false, Bool.or_false, Bool.or_self, ne_eq, not_true_eq_false, decide_false]))
      exact ⟨3, by omega, by omega, V.wk⟩
    · simp only [k3]
      (conv => whnf)
      (try simp only [Nat.zero_add, tn0, tn1, tn2, tn3, dec_refl, dec_reflz, decide_true, Bool.and_true, Bool.true_and, Bool.and_self, Bool.not_true, Bool.not_false, Bool.or_false, Bool.or_self, ne_eq, not_true_eq_false, decide_false])
      repeat ((first | refine V.s1 ?_ | ((try ((with_reducible refine .ext ?_); (conv => whnf); (try simp only [Nat.zero_add, tn0, tn1, tn2, tn3, dec_refl, dec_reflz, decide_true, Bool.and_true, Bool.true_and, Bool.and_self, Bool.not_true, Bool.not_false, Bool.or_false, Bool.or_self, ne_eq, not_true_eq_false, decide_false]))); (with_reducible refine call_intro (r := ?_) ?_ ?_); rotate_left; (focus (first | exact (l3) | exact (r3))); (conv => whnf))); (try simp only [Nat.zero_add, tn0, tn1, tn2, tn3, dec_refl, dec_reflz, decide_true, Bool.and_true, Bool.true_and, Bool.and_self, Bool.not_true, Bool.not_false, Bool.or_false, Bool.or_self, ne_eq, not_true_eq_false, decide_false]))
      exact ⟨4, by omega, by omega, V.wk⟩
    · simp only [k4]
      (conv => whnf)
      (try simp only [Nat.zero_add, tn0, tn1, tn2])
      repeat ((first | refine V.s1 ?_); (try simp only [Nat.zero_add, tn0, tn1, tn2]))
      exact Fin.of rfl
end Go.Proofs.YtfilfmadapjajaaGreatDoor
end
