/- What some functions of the program answer at values that mean given lists, texts and numbers, each proved of the program's own code: part 7. Conditions: those that each theorem names. -/
import Derived.Test.YtfilfmadapjajaaGreatDoorH4
import Derived.Test.YtfilfmadapjajaaGreatDoorH5
import Derived.Test.YtfilfmadapjajaaGreatDoorH6
set_option linter.unusedSimpArgs false
set_option linter.unusedVariables false
set_option maxHeartbeats 8000000
set_option maxRecDepth 100000
section
namespace Go.Proofs.YtfilfmadapjajaaGreatDoor
open Go Go.V Go.Nb
theorem rfrom_no (a0 b0 a1 b1 a2 b2 : List UInt8) (e : Int) (he : e ≠ 0) (fr : Called Tryz.prog 46 [.slf 2 3 (fun j => List.take 2 (List.drop (j * 2) [.str a0, .str b0, .str a1, .str b1, .str a2, .str b2]))] (.int .i64 e)) :
    Called Tryz.prog 26 [.agg [.str a0, .str b0], .agg [.str a1, .str b1], .agg [.str a2, .str b2]] (.tup [.agg [.str [], .str [], .str [], .str [], .str [], .str []], .int .i64 e]) := by
  refine called_of_run tbOk 6 ⟨Tryz.func26, rfl, rfl, Nat.le_of_ble_eq_true rfl⟩ ?_
  (conv => whnf)
  (conv => whnf)
  (try simp only [Nat.zero_add])
  repeat ((first | refine V.s1 ?_ | ((try ((with_reducible refine .ext ?_); (conv => whnf); (try simp only [Nat.zero_add]))); (with_reducible refine call_intro (r := ?_) ?_ ?_); rotate_left; (focus (first | exact (fr))); (conv => whnf))); (try simp only [Nat.zero_add]))
  refine Cnd.split (CondB.mk (fun hq => ?_) (fun hq => ?_))
  · (conv => whnf)
    (try simp only [Nat.zero_add])
    repeat ((first | refine V.s1 ?_); (try simp only [Nat.zero_add]))
    exact Fin.of rfl
  · exfalso
    simp at hq
    exact he hq
theorem rfrom_neg (a0 b0 a1 b1 a2 b2 : List UInt8) (gx gy gl : Int) (h : gx < 0 ∨ gy < 0 ∨ gl < 0) (fr : Called Tryz.prog 46 [.slf 2 3 (fun j => List.take 2 (List.drop (j * 2) [.str a0, .str b0, .str a1, .str b1, .str a2, .str b2]))] (.int .i64 0))
    (sx : Called Tryz.prog 47 [.agg [.str a0, .str b0]] (.int .i64 gx)) (sy : Called Tryz.prog 47 [.agg [.str a1, .str b1]] (.int .i64 gy)) (sl : Called Tryz.prog 47 [.agg [.str a2, .str b2]] (.int .i64 gl)) :
    Called Tryz.prog 26 [.agg [.str a0, .str b0], .agg [.str a1, .str b1], .agg [.str a2, .str b2]] (.tup [.agg [.str [], .str [], .str [], .str [], .str [], .str []], .int .i64 2]) := by
  refine called_of_run tbOk 6 ⟨Tryz.func26, rfl, rfl, Nat.le_of_ble_eq_true rfl⟩ ?_
  (conv => whnf)
  (conv => whnf)
  (try simp only [Nat.zero_add])
  repeat ((first | refine V.s1 ?_ | ((try ((with_reducible refine .ext ?_); (conv => whnf); (try simp only [Nat.zero_add]))); (with_reducible refine call_intro (r := ?_) ?_ ?_); rotate_left; (focus (first | exact (fr) | exact (sx) | exact (sy) | exact (sl))); (conv => whnf))); (try simp only [Nat.zero_add]))
  refine Cnd.split (CondB.mk (fun hq => ?_) (fun hq => ?_))
  · (conv => whnf)
    (try simp only [Nat.zero_add])
    repeat ((first | refine V.s1 ?_); (try simp only [Nat.zero_add]))
    exact Fin.of rfl
  · exfalso
    simp at hq
    omega
theorem rfrom_big (a0 b0 a1 b1 a2 b2 c0 d0 u0 v0 z0 w0 : List UInt8) (gx gy gl gz : Int) (h : ¬ gx < 0 ∧ ¬ gy < 0 ∧ ¬ gl < 0) (hz : gz < 0) (fr : Called Tryz.prog 46 [.slf 2 3 (fun j => List.take 2 (List.drop (j * 2) [.str a0, .str b0, .str a1, .str b1, .str a2, .str b2]))] (.int .i64 0))
    (sx : Called Tryz.prog 47 [.agg [.str a0, .str b0]] (.int .i64 gx)) (sy : Called Tryz.prog 47 [.agg [.str a1, .str b1]] (.int .i64 gy)) (sl : Called Tryz.prog 47 [.agg [.str a2, .str b2]] (.int .i64 gl))
    (o : Called Tryz.prog 42 [.int .i64 1, .int .i64 1] (.agg [.str c0, .str d0])) (ad : Called Tryz.prog 93 [.agg [.str a0, .str b0], .agg [.str a1, .str b1]] (.tup [.agg [.str u0, .str v0], .int .i64 0]))
    (sb : Called Tryz.prog 91 [.agg [.str c0, .str d0], .agg [.str u0, .str v0]] (.tup [.agg [.str z0, .str w0], .int .i64 0])) (sz : Called Tryz.prog 47 [.agg [.str z0, .str w0]] (.int .i64 gz)) :
    Called Tryz.prog 26 [.agg [.str a0, .str b0], .agg [.str a1, .str b1], .agg [.str a2, .str b2]] (.tup [.agg [.str [], .str [], .str [], .str [], .str [], .str []], .int .i64 2]) := by
  refine called_of_run tbOk 6 ⟨Tryz.func26, rfl, rfl, Nat.le_of_ble_eq_true rfl⟩ ?_
  (conv => whnf)
  (conv => whnf)
  (try simp only [Nat.zero_add])
  repeat ((first | refine V.s1 ?_ | ((try ((with_reducible refine .ext ?_); (conv => whnf); (try simp only [Nat.zero_add]))); (with_reducible refine call_intro (r := ?_) ?_ ?_); rotate_left; (focus (first | exact (fr) | exact (sx) | exact (sy) | exact (sl))); (conv => whnf))); (try simp only [Nat.zero_add]))
  refine Cnd.split (CondB.mk (fun hq => ?_) (fun hq => ?_))
  · exfalso
    simp at hq
    omega
  (conv => whnf)
  (try simp only [Nat.zero_add])
  repeat ((first | refine V.s1 ?_); (try simp only [Nat.zero_add]))
  refine ⟨(.take 1 (.take 2 (.ev (.cons 0 [2, 1] (.ev (.cons 3 [] (.ev (.cons 4 [] (.ev (.cons 5 [] (.ev (.cons 6 [] (.done) (.nil))) (.nil))) (.cons 5 [] (.ev (.cons 4 [] (.ev (.cons 6 [] (.done) (.nil))) (.nil))) (.nil)))) (.cons 5 [2, 1] (.ev (.cons 3 [] (.ev (.cons 4 [] (.ev (.cons 6 [] (.done) (.nil))) (.nil))) (.nil))) (.nil)))) (.cons 5 [2, 1] (.ev (.cons 0 [2, 1] (.ev (.cons 3 [] (.ev (.cons 4 [] (.ev (.cons 6 [] (.done) (.nil))) (.nil))) (.nil))) (.nil))) (.nil)))))), [], ⟨by kernel_rfl, by kernel_rfl, by kernel_rfl, by kernel_rfl⟩, ?_⟩
  refine drw_meet [(10, .box 10 0)] [(10, .box [.str z0, .str w0]), (9, .box [.int .i64 0])] ?_ ?_
  · (conv => whnf); (try simp only [Nat.zero_add])
    repeat' (first | exact V.wk | ((first | refine V.s1 ?_ | ((with_reducible refine recheck_and ?_ ?_); (focus ((conv => whnf); (try simp only [Nat.zero_add]); (repeat (refine V.s1 ?_; (try simp only [Nat.zero_add]))); exact ⟨rfl⟩)); (conv => whnf)) | ((try ((with_reducible refine .ext ?_); (conv => whnf); (try simp only [Nat.zero_add]))); (with_reducible refine call_intro (r := ?_) ?_ ?_); rotate_left; (focus (first | exact (o) | exact (ad) | exact (sb))); (conv => whnf)) | ((with_reducible refine .inl ?_); (conv => whnf); (first | refine ⟨0, _, _, ⟨Tryz.func58, rfl, rfl, Nat.le_of_ble_eq_true rfl⟩, ?_⟩ | refine ⟨0, _, _, ⟨Tryz.func57, rfl, rfl, Nat.le_of_ble_eq_true rfl⟩, ?_⟩ | refine ⟨0, _, _, ⟨Tryz.func92, rfl, rfl, Nat.le_of_ble_eq_true rfl⟩, ?_⟩); (conv => whnf))); (try simp only [Nat.zero_add])) | (refine And.intro ?_ ?_ <;> (conv => whnf); (try simp only [Nat.zero_add])))
  (conv => whnf)
  (try simp only [Nat.zero_add])
  repeat ((first | refine V.s1 ?_ | ((try ((with_reducible refine .ext ?_); (conv => whnf); (try simp only [Nat.zero_add]))); (with_reducible refine call_intro (r := ?_) ?_ ?_); rotate_left; (focus (first | exact (sz))); (conv => whnf))); (try simp only [Nat.zero_add]))
  refine Cnd.split (CondB.mk (fun hq2 => ?_) (fun hq2 => ?_))
  · (conv => whnf)
    (try simp only [Nat.zero_add])
    repeat ((first | refine V.s1 ?_); (try simp only [Nat.zero_add]))
    exact Fin.of rfl
  · exfalso
    simp at hq2
    omega
theorem rfrom_zero (a0 b0 a1 b1 a2 b2 c0 d0 u0 v0 z0 w0 : List UInt8) (gx gy gl gz : Int) (h : ¬ gx < 0 ∧ ¬ gy < 0 ∧ ¬ gl < 0) (hz : ¬ gz < 0) (hy : gy = 0) (fr : Called Tryz.prog 46 [.slf 2 3 (fun j => List.take 2 (List.drop (j * 2) [.str a0, .str b0, .str a1, .str b1, .str a2, .str b2]))] (.int .i64 0))
    (sx : Called Tryz.prog 47 [.agg [.str a0, .str b0]] (.int .i64 gx)) (sy : Called Tryz.prog 47 [.agg [.str a1, .str b1]] (.int .i64 gy)) (sl : Called Tryz.prog 47 [.agg [.str a2, .str b2]] (.int .i64 gl))
    (o : Called Tryz.prog 42 [.int .i64 1, .int .i64 1] (.agg [.str c0, .str d0])) (ad : Called Tryz.prog 93 [.agg [.str a0, .str b0], .agg [.str a1, .str b1]] (.tup [.agg [.str u0, .str v0], .int .i64 0]))
    (sb : Called Tryz.prog 91 [.agg [.str c0, .str d0], .agg [.str u0, .str v0]] (.tup [.agg [.str z0, .str w0], .int .i64 0])) (sz : Called Tryz.prog 47 [.agg [.str z0, .str w0]] (.int .i64 gz)) :
    Called Tryz.prog 26 [.agg [.str a0, .str b0], .agg [.str a1, .str b1], .agg [.str a2, .str b2]] (.tup [.agg [.str [], .str [], .str [], .str [], .str [], .str []], .int .i64 7]) := by
  refine called_of_run tbOk 6 ⟨Tryz.func26, rfl, rfl, Nat.le_of_ble_eq_true rfl⟩ ?_
  (conv => whnf)
  (conv => whnf)
  (try simp only [Nat.zero_add])
  repeat ((first | refine V.s1 ?_ | ((try ((with_reducible refine .ext ?_); (conv => whnf); (try simp only [Nat.zero_add]))); (with_reducible refine call_intro (r := ?_) ?_ ?_); rotate_left; (focus (first | exact (fr) | exact (sx) | exact (sy) | exact (sl))); (conv => whnf))); (try simp only [Nat.zero_add]))
  refine Cnd.split (CondB.mk (fun hq => ?_) (fun hq => ?_))
  · exfalso
    simp at hq
    omega
  (conv => whnf)
  (try simp only [Nat.zero_add])
  repeat ((first | refine V.s1 ?_); (try simp only [Nat.zero_add]))
  refine ⟨(.take 1 (.take 2 (.ev (.cons 0 [2, 1] (.ev (.cons 3 [] (.ev (.cons 4 [] (.ev (.cons 5 [] (.ev (.cons 6 [] (.done) (.nil))) (.nil))) (.cons 5 [] (.ev (.cons 4 [] (.ev (.cons 6 [] (.done) (.nil))) (.nil))) (.nil)))) (.cons 5 [2, 1] (.ev (.cons 3 [] (.ev (.cons 4 [] (.ev (.cons 6 [] (.done) (.nil))) (.nil))) (.nil))) (.nil)))) (.cons 5 [2, 1] (.ev (.cons 0 [2, 1] (.ev (.cons 3 [] (.ev (.cons 4 [] (.ev (.cons 6 [] (.done) (.nil))) (.nil))) (.nil))) (.nil))) (.nil)))))), [], ⟨by kernel_rfl, by kernel_rfl, by kernel_rfl, by kernel_rfl⟩, ?_⟩
  refine drw_meet [(10, .box 10 0)] [(10, .box [.str z0, .str w0]), (9, .box [.int .i64 0])] ?_ ?_
  · (conv => whnf); (try simp only [Nat.zero_add])
    repeat' (first | exact V.wk | ((first | refine V.s1 ?_ | ((with_reducible refine recheck_and ?_ ?_); (focus ((conv => whnf); (try simp only [Nat.zero_add]); (repeat (refine V.s1 ?_; (try simp only [Nat.zero_add]))); exact ⟨rfl⟩)); (conv => whnf)) | ((try ((with_reducible refine .ext ?_); (conv => whnf); (try simp only [Nat.zero_add]))); (with_reducible refine call_intro (r := ?_) ?_ ?_); rotate_left; (focus (first | exact (o) | exact (ad) | exact (sb))); (conv => whnf)) | ((with_reducible refine .inl ?_); (conv => whnf); (first | refine ⟨0, _, _, ⟨Tryz.func58, rfl, rfl, Nat.le_of_ble_eq_true rfl⟩, ?_⟩ | refine ⟨0, _, _, ⟨Tryz.func57, rfl, rfl, Nat.le_of_ble_eq_true rfl⟩, ?_⟩ | refine ⟨0, _, _, ⟨Tryz.func92, rfl, rfl, Nat.le_of_ble_eq_true rfl⟩, ?_⟩); (conv => whnf))); (try simp only [Nat.zero_add])) | (refine And.intro ?_ ?_ <;> (conv => whnf); (try simp only [Nat.zero_add])))
  (conv => whnf)
  (try simp only [Nat.zero_add])
  repeat ((first | refine V.s1 ?_ | ((try ((with_reducible refine .ext ?_); (conv => whnf); (try simp only [Nat.zero_add]))); (with_reducible refine call_intro (r := ?_) ?_ ?_); rotate_left; (focus (first | exact (sz))); (conv => whnf))); (try simp only [Nat.zero_add]))
  refine Cnd.split (CondB.mk (fun hq2 => ?_) (fun hq2 => ?_))
  · exfalso
    simp at hq2
    omega
  (conv => whnf)
  (try simp only [Nat.zero_add])
  repeat ((first | refine V.s1 ?_ | ((try ((with_reducible refine .ext ?_); (conv => whnf); (try simp only [Nat.zero_add]))); (with_reducible refine call_intro (r := ?_) ?_ ?_); rotate_left; (focus (first | exact (sy))); (conv => whnf))); (try simp only [Nat.zero_add]))
  refine Cnd.split (CondB.mk (fun hq3 => ?_) (fun hq3 => ?_))
  · (conv => whnf)
    (try simp only [Nat.zero_add])
    repeat ((first | refine V.s1 ?_); (try simp only [Nat.zero_add]))
    exact Fin.of rfl
  · exfalso
    simp at hq3
    omega
theorem rfrom_ok (a0 b0 a1 b1 a2 b2 c0 d0 u0 v0 z0 w0 p0 q0 p1 q1 r0 s0 r1 s1 : List UInt8) (gx gy gl gz : Int) (h : ¬ gx < 0 ∧ ¬ gy < 0 ∧ ¬ gl < 0) (hz : ¬ gz < 0) (hy : ¬ gy = 0) (fr : Called Tryz.prog 46 [.slf 2 3 (fun j => List.take 2 (List.drop (j * 2) [.str a0, .str b0, .str a1, .str b1, .str a2, .str b2]))] (.int .i64 0))
    (sx : Called Tryz.prog 47 [.agg [.str a0, .str b0]] (.int .i64 gx)) (sy : Called Tryz.prog 47 [.agg [.str a1, .str b1]] (.int .i64 gy)) (sl : Called Tryz.prog 47 [.agg [.str a2, .str b2]] (.int .i64 gl))
    (o : Called Tryz.prog 42 [.int .i64 1, .int .i64 1] (.agg [.str c0, .str d0])) (ad : Called Tryz.prog 93 [.agg [.str a0, .str b0], .agg [.str a1, .str b1]] (.tup [.agg [.str u0, .str v0], .int .i64 0]))
    (sb : Called Tryz.prog 91 [.agg [.str c0, .str d0], .agg [.str u0, .str v0]] (.tup [.agg [.str z0, .str w0], .int .i64 0])) (sz : Called Tryz.prog 47 [.agg [.str z0, .str w0]] (.int .i64 gz))
    (m1 : Called Tryz.prog 95 [.agg [.str a0, .str b0], .agg [.str a2, .str b2]] (.tup [.agg [.str p0, .str q0], .int .i64 0])) (d1 : Called Tryz.prog 94 [.agg [.str p0, .str q0], .agg [.str a1, .str b1]] (.tup [.agg [.str r0, .str s0], .int .i64 0]))
    (m2 : Called Tryz.prog 95 [.agg [.str z0, .str w0], .agg [.str a2, .str b2]] (.tup [.agg [.str p1, .str q1], .int .i64 0])) (d2 : Called Tryz.prog 94 [.agg [.str p1, .str q1], .agg [.str a1, .str b1]] (.tup [.agg [.str r1, .str s1], .int .i64 0])) :
    Called Tryz.prog 26 [.agg [.str a0, .str b0], .agg [.str a1, .str b1], .agg [.str a2, .str b2]] (.tup [.agg [.str r0, .str s0, .str a2, .str b2, .str r1, .str s1], .int .i64 0]) := by
  refine called_of_run tbOk 6 ⟨Tryz.func26, rfl, rfl, Nat.le_of_ble_eq_true rfl⟩ ?_
  (conv => whnf)
  (conv => whnf)
  (try simp only [Nat.zero_add])
  repeat ((first | refine V.s1 ?_ | ((try ((with_reducible refine .ext ?_); (conv => whnf); (try simp only [Nat.zero_add]))); (with_reducible refine call_intro (r := ?_) ?_ ?_); rotate_left; (focus (first | exact (fr) | exact (sx) | exact (sy) | exact (sl))); (conv => whnf))); (try simp only [Nat.zero_add]))
  refine Cnd.split (CondB.mk (fun hq => ?_) (fun hq => ?_))
  · exfalso
    simp at hq
    omega
  (conv => whnf)
  (try simp only [Nat.zero_add])
  repeat ((first | refine V.s1 ?_); (try simp only [Nat.zero_add]))
  refine ⟨(.take 1 (.take 2 (.ev (.cons 0 [2, 1] (.ev (.cons 3 [] (.ev (.cons 4 [] (.ev (.cons 5 [] (.ev (.cons 6 [] (.done) (.nil))) (.nil))) (.cons 5 [] (.ev (.cons 4 [] (.ev (.cons 6 [] (.done) (.nil))) (.nil))) (.nil)))) (.cons 5 [2, 1] (.ev (.cons 3 [] (.ev (.cons 4 [] (.ev (.cons 6 [] (.done) (.nil))) (.nil))) (.nil))) (.nil)))) (.cons 5 [2, 1] (.ev (.cons 0 [2, 1] (.ev (.cons 3 [] (.ev (.cons 4 [] (.ev (.cons 6 [] (.done) (.nil))) (.nil))) (.nil))) (.nil))) (.nil)))))), [], ⟨by kernel_rfl, by kernel_rfl, by kernel_rfl, by kernel_rfl⟩, ?_⟩
  refine drw_meet [(10, .box 10 0)] [(10, .box [.str z0, .str w0]), (9, .box [.int .i64 0])] ?_ ?_
  · (conv => whnf); (try simp only [Nat.zero_add])
    repeat' (first | exact V.wk | ((first | refine V.s1 ?_ | ((with_reducible refine recheck_and ?_ ?_); (focus ((conv => whnf); (try simp only [Nat.zero_add]); (repeat (refine V.s1 ?_; (try simp only [Nat.zero_add]))); exact ⟨rfl⟩)); (conv => whnf)) | ((try ((with_reducible refine .ext ?_); (conv => whnf); (try simp only [Nat.zero_add]))); (with_reducible refine call_intro (r := ?_) ?_ ?_); rotate_left; (focus (first | exact (o) | exact (ad) | exact (sb))); (conv => whnf)) | ((with_reducible refine .inl ?_); (conv => whnf); (first | refine ⟨0, _, _, ⟨Tryz.func58, rfl, rfl, Nat.le_of_ble_eq_true rfl⟩, ?_⟩ | refine ⟨0, _, _, ⟨Tryz.func57, rfl, rfl, Nat.le_of_ble_eq_true rfl⟩, ?_⟩ | refine ⟨0, _, _, ⟨Tryz.func92, rfl, rfl, Nat.le_of_ble_eq_true rfl⟩, ?_⟩); (conv => whnf))); (try simp only [Nat.zero_add])) | (refine And.intro ?_ ?_ <;> (conv => whnf); (try simp only [Nat.zero_add])))
  (conv => whnf)
  (try simp only [Nat.zero_add])
  repeat ((first | refine V.s1 ?_ | ((try ((with_reducible refine .ext ?_); (conv => whnf); (try simp only [Nat.zero_add]))); (with_reducible refine call_intro (r := ?_) ?_ ?_); rotate_left; (focus (first | exact (sz))); (conv => whnf))); (try simp only [Nat.zero_add]))
  refine Cnd.split (CondB.mk (fun hq2 => ?_) (fun hq2 => ?_))
  · exfalso
    simp at hq2
    omega
  (conv => whnf)
  (try simp only [Nat.zero_add])
  repeat ((first | refine V.s1 ?_ | ((try ((with_reducible refine .ext ?_); (conv => whnf); (try simp only [Nat.zero_add]))); (with_reducible refine call_intro (r := ?_) ?_ ?_); rotate_left; (focus (first | exact (sy))); (conv => whnf))); (try simp only [Nat.zero_add]))
  refine Cnd.split (CondB.mk (fun hq3 => ?_) (fun hq3 => ?_))
  · exfalso
    simp at hq3
    omega
  (conv => whnf)
  (try simp only [Nat.zero_add])
  repeat ((first | refine V.s1 ?_); (try simp only [Nat.zero_add]))
  refine ⟨(.take 0 (.take 1 (.take 3 (.take 5 (.take 6 (.take 7 (.take 9 (.ev (.cons 2 [9, 7, 6, 5, 3] (.ev (.cons 4 [9, 7, 6, 5] (.ev (.cons 8 [9, 5] (.ev (.cons 10 [5] (.take 11 (.ev (.cons 12 [11, 5] (.ev (.cons 13 [] (.done) (.nil))) (.nil)))) (.cons 12 [9, 5] (.ev (.cons 10 [5] (.take 11 (.ev (.cons 13 [] (.done) (.nil)))) (.nil))) (.nil)))) (.cons 12 [9, 7, 6, 5] (.ev (.cons 8 [9, 5] (.ev (.cons 10 [5] (.take 11 (.ev (.cons 13 [] (.done) (.nil)))) (.nil))) (.nil))) (.nil)))) (.cons 12 [9, 7, 6, 5, 3] (.ev (.cons 4 [9, 7, 6, 5] (.ev (.cons 8 [9, 5] (.ev (.cons 10 [5] (.take 11 (.ev (.cons 13 [] (.done) (.nil)))) (.nil))) (.nil))) (.nil))) (.nil)))) (.cons 12 [9, 7, 6, 5, 3, 1, 0] (.ev (.cons 2 [9, 7, 6, 5, 3] (.ev (.cons 4 [9, 7, 6, 5] (.ev (.cons 8 [9, 5] (.ev (.cons 10 [5] (.take 11 (.ev (.cons 13 [] (.done) (.nil)))) (.nil))) (.nil))) (.nil))) (.nil))) (.nil))))))))))), [], ⟨by kernel_rfl, by kernel_rfl, by kernel_rfl, by kernel_rfl⟩, ?_⟩
  refine drw_meet [(11, .box 11 0)] [(11, .box [.str r0, .str s0, .str a2, .str b2, .str r1, .str s1]), (9, .box [.int .i64 0])] ?_ ?_
  · (conv => whnf); (try simp only [Nat.zero_add])
    repeat' (first | exact V.wk | ((first | refine V.s1 ?_ | ((with_reducible refine recheck_and ?_ ?_); (focus ((conv => whnf); (try simp only [Nat.zero_add]); (repeat (refine V.s1 ?_; (try simp only [Nat.zero_add]))); exact ⟨rfl⟩)); (conv => whnf)) | ((try ((with_reducible refine .ext ?_); (conv => whnf); (try simp only [Nat.zero_add]))); (with_reducible refine call_intro (r := ?_) ?_ ?_); rotate_left; (focus (first | exact (m1) | exact (d1) | exact (m2) | exact (d2))); (conv => whnf)) | ((with_reducible refine .inl ?_); (conv => whnf); (first | refine ⟨0, _, _, ⟨Tryz.func60, rfl, rfl, Nat.le_of_ble_eq_true rfl⟩, ?_⟩ | refine ⟨0, _, _, ⟨Tryz.func59, rfl, rfl, Nat.le_of_ble_eq_true rfl⟩, ?_⟩ | refine ⟨0, _, _, ⟨Tryz.func92, rfl, rfl, Nat.le_of_ble_eq_true rfl⟩, ?_⟩); (conv => whnf))); (try simp only [Nat.zero_add])) | (refine And.intro ?_ ?_ <;> (conv => whnf); (try simp only [Nat.zero_add])))
  (conv => whnf)
  (try simp only [Nat.zero_add])
  repeat ((first | refine V.s1 ?_); (try simp only [Nat.zero_add]))
  exact Fin.of rfl
end Go.Proofs.YtfilfmadapjajaaGreatDoor
end
section
namespace Go.Proofs.YtfilfmadapjajaaGreatDoor
open Go Go.V Go.Nb
theorem zZ43_0 : type_of% @List.getD_cons_succ.{0} ∧ type_of% @List.getD_cons_zero.{0} ∧ type_of% @Nat.zero_add ∧ type_of% @tn0 ∧ type_of% @tn1 ∧ type_of% @tn2 := ⟨@List.getD_cons_succ.{0}, @List.getD_cons_zero.{0}, @Nat.zero_add, @tn0, @tn1, @tn2⟩
theorem rplace_1 : Called Tryz.prog 52 [.int .i64 1] (.tup [frT (lxQ 1), frT (lyQ 1)]) := by
  have c1 := r23of (n := 44757) (m := 100000) (by omega) (by omega)
  have c2 := r23of (n := 40745) (m := 100000) (by omega) (by omega)
  have e0 : lxQ 1 = Rat.divInt 44757 100000 := by simp [lxQ]
  have e1 : lyQ 1 = Rat.divInt 40745 100000 := by simp [lyQ]
  rw [e0, e1]
  unfold frT at *
  generalize Rat.divInt 44757 100000 = p at *
  generalize Rat.divInt 40745 100000 = q at *
  refine called_of_run tbOk 6 ⟨Tryz.func52, rfl, rfl, Nat.le_of_ble_eq_true rfl⟩ ?_
  (conv => whnf)
  (conv => whnf)
  (try simp only [Nat.zero_add])
  repeat ((first | refine V.s1 ?_); (try simp only [Nat.zero_add]))
  refine ⟨(.take 0 (.take 1 (.take 2 (.take 3 (.take 4 (.take 6 (.take 7 (.take 8 (.take 9 (.take 10 (.ev (.cons 5 [10, 9, 8, 7, 6] (.ev (.cons 11 [] (.ev (.cons 12 [] (.ev (.cons 13 [] (.done) (.nil))) (.nil))) (.nil))) (.nil))))))))))))), [], ⟨by kernel_rfl, by kernel_rfl, by kernel_rfl, by kernel_rfl⟩, ?_⟩
  refine drw_meet [] [(2, .box [.str (decZ p.num), .str (dec p.den)]), (3, .box [.str (decZ q.num), .str (dec q.den)])] ?_ ?_
  · (conv => whnf); (try simp only [zZ43_0])
    repeat' (first | exact V.wk | ((with_reducible refine And.intro ?_ draw_nil); (conv => whnf); (try simp only [zZ43_0])) | ((with_reducible first | refine draw_split ?_ ?_ | refine nds_split ?_ ?_) <;> (conv => whnf); (try simp only [zZ43_0])) | ((first | refine V.s1 ?_ | ((with_reducible refine recheck_and ?_ ?_); (focus ((conv => whnf); (try simp only [zZ43_0]); (repeat (refine V.s1 ?_; (try simp only [zZ43_0]))); exact ⟨rfl⟩)); (conv => whnf)) | ((try ((with_reducible refine .ext ?_); (conv => whnf); (try simp only [zZ43_0]))); (with_reducible refine call_intro (r := ?_) ?_ ?_); rotate_left; (focus (first | exact (c1) | exact (c2))); (conv => whnf))); (try simp only [zZ43_0])) | (refine And.intro ?_ ?_ <;> (conv => whnf); (try simp only [zZ43_0])))
  (conv => whnf)
  (try simp only [Nat.zero_add])
  repeat ((first | refine V.s1 ?_); (try simp only [Nat.zero_add]))
  exact Fin.of rfl
theorem rplace_2 : Called Tryz.prog 52 [.int .i64 2] (.tup [frT (lxQ 2), frT (lyQ 2)]) := by
  have c1 := r23of (n := 31006) (m := 100000) (by omega) (by omega)
  have c2 := r23of (n := 31616) (m := 100000) (by omega) (by omega)
  have e0 : lxQ 2 = Rat.divInt 31006 100000 := by simp [lxQ]
  have e1 : lyQ 2 = Rat.divInt 31616 100000 := by simp [lyQ]
  rw [e0, e1]
  unfold frT at *
  generalize Rat.divInt 31006 100000 = p at *
  generalize Rat.divInt 31616 100000 = q at *
  refine called_of_run tbOk 6 ⟨Tryz.func52, rfl, rfl, Nat.le_of_ble_eq_true rfl⟩ ?_
  (conv => whnf)
  (conv => whnf)
  (try simp only [Nat.zero_add])
  repeat ((first | refine V.s1 ?_); (try simp only [Nat.zero_add]))
  refine ⟨(.take 0 (.take 1 (.take 2 (.take 3 (.take 4 (.take 6 (.take 7 (.take 8 (.take 9 (.take 10 (.ev (.cons 5 [10, 9, 8, 7, 6] (.ev (.cons 11 [] (.ev (.cons 12 [] (.ev (.cons 13 [] (.done) (.nil))) (.nil))) (.nil))) (.nil))))))))))))), [], ⟨by kernel_rfl, by kernel_rfl, by kernel_rfl, by kernel_rfl⟩, ?_⟩
  refine drw_meet [] [(2, .box [.str (decZ p.num), .str (dec p.den)]), (3, .box [.str (decZ q.num), .str (dec q.den)])] ?_ ?_
  · (conv => whnf); (try simp only [zZ43_0])
    repeat' (first | exact V.wk | ((with_reducible refine And.intro ?_ draw_nil); (conv => whnf); (try simp only [zZ43_0])) | ((with_reducible first | refine draw_split ?_ ?_ | refine nds_split ?_ ?_) <;> (conv => whnf); (try simp only [zZ43_0])) | ((first | refine V.s1 ?_ | ((with_reducible refine recheck_and ?_ ?_); (focus ((conv => whnf); (try simp only [zZ43_0]); (repeat (refine V.s1 ?_; (try simp only [zZ43_0]))); exact ⟨rfl⟩)); (conv => whnf)) | ((try ((with_reducible refine .ext ?_); (conv => whnf); (try simp only [zZ43_0]))); (with_reducible refine call_intro (r := ?_) ?_ ?_); rotate_left; (focus (first | exact (c1) | exact (c2))); (conv => whnf))); (try simp only [zZ43_0])) | (refine And.intro ?_ ?_ <;> (conv => whnf); (try simp only [zZ43_0])))
  (conv => whnf)
  (try simp only [Nat.zero_add])
  repeat ((first | refine V.s1 ?_); (try simp only [Nat.zero_add]))
  exact Fin.of rfl
theorem rplace_3 : Called Tryz.prog 52 [.int .i64 3] (.tup [frT (lxQ 3), frT (lyQ 3)]) := by
  have c1 := r23of (n := 34567) (m := 100000) (by omega) (by omega)
  have c2 := r23of (n := 35850) (m := 100000) (by omega) (by omega)
  have e0 : lxQ 3 = Rat.divInt 34567 100000 := by simp [lxQ]
  have e1 : lyQ 3 = Rat.divInt 35850 100000 := by simp [lyQ]
  rw [e0, e1]
  unfold frT at *
  generalize Rat.divInt 34567 100000 = p at *
  generalize Rat.divInt 35850 100000 = q at *
  refine called_of_run tbOk 6 ⟨Tryz.func52, rfl, rfl, Nat.le_of_ble_eq_true rfl⟩ ?_
  (conv => whnf)
  (conv => whnf)
  (try simp only [Nat.zero_add])
  repeat ((first | refine V.s1 ?_); (try simp only [Nat.zero_add]))
  refine ⟨(.take 0 (.take 1 (.take 2 (.take 3 (.take 4 (.take 6 (.take 7 (.take 8 (.take 9 (.take 10 (.ev (.cons 5 [10, 9, 8, 7, 6] (.ev (.cons 11 [] (.ev (.cons 12 [] (.ev (.cons 13 [] (.done) (.nil))) (.nil))) (.nil))) (.nil))))))))))))), [], ⟨by kernel_rfl, by kernel_rfl, by kernel_rfl, by kernel_rfl⟩, ?_⟩
  refine drw_meet [] [(2, .box [.str (decZ p.num), .str (dec p.den)]), (3, .box [.str (decZ q.num), .str (dec q.den)])] ?_ ?_
  · (conv => whnf); (try simp only [zZ43_0])
    repeat' (first | exact V.wk | ((with_reducible refine And.intro ?_ draw_nil); (conv => whnf); (try simp only [zZ43_0])) | ((with_reducible first | refine draw_split ?_ ?_ | refine nds_split ?_ ?_) <;> (conv => whnf); (try simp only [zZ43_0])) | ((first | refine V.s1 ?_ | ((with_reducible refine recheck_and ?_ ?_); (focus ((conv => whnf); (try simp only [zZ43_0]); (repeat (refine V.s1 ?_; (try simp only [zZ43_0]))); exact ⟨rfl⟩)); (conv => whnf)) | ((try ((with_reducible refine .ext ?_); (conv => whnf); (try simp only [zZ43_0]))); (with_reducible refine call_intro (r := ?_) ?_ ?_); rotate_left; (focus (first | exact (c1) | exact (c2))); (conv => whnf))); (try simp only [zZ43_0])) | (refine And.intro ?_ ?_ <;> (conv => whnf); (try simp only [zZ43_0])))
  (conv => whnf)
  (try simp only [Nat.zero_add])
  repeat ((first | refine V.s1 ?_); (try simp only [Nat.zero_add]))
  exact Fin.of rfl
theorem rplace_4 : Called Tryz.prog 52 [.int .i64 4] (.tup [frT (lxQ 4), frT (lyQ 4)]) := by
  have c1 := r23of (n := 33242) (m := 100000) (by omega) (by omega)
  have c2 := r23of (n := 34743) (m := 100000) (by omega) (by omega)
  have e0 : lxQ 4 = Rat.divInt 33242 100000 := by simp [lxQ]
  have e1 : lyQ 4 = Rat.divInt 34743 100000 := by simp [lyQ]
  rw [e0, e1]
  unfold frT at *
  generalize Rat.divInt 33242 100000 = p at *
  generalize Rat.divInt 34743 100000 = q at *
  refine called_of_run tbOk 6 ⟨Tryz.func52, rfl, rfl, Nat.le_of_ble_eq_true rfl⟩ ?_
  (conv => whnf)
  (conv => whnf)
  (try simp only [Nat.zero_add])
  repeat ((first | refine V.s1 ?_); (try simp only [Nat.zero_add]))
  refine ⟨(.take 0 (.take 1 (.take 2 (.take 3 (.take 4 (.take 6 (.take 7 (.take 8 (.take 9 (.take 10 (.ev (.cons 5 [10, 9, 8, 7, 6] (.ev (.cons 11 [] (.ev (.cons 12 [] (.ev (.cons 13 [] (.done) (.nil))) (.nil))) (.nil))) (.nil))))))))))))), [], ⟨by kernel_rfl, by kernel_rfl, by kernel_rfl, by kernel_rfl⟩, ?_⟩
  refine drw_meet [] [(2, .box [.str (decZ p.num), .str (dec p.den)]), (3, .box [.str (decZ q.num), .str (dec q.den)])] ?_ ?_
  · (conv => whnf); (try simp only [zZ43_0])
    repeat' (first | exact V.wk | ((with_reducible refine And.intro ?_ draw_nil); (conv => whnf); (try simp only [zZ43_0])) | ((with_reducible first | refine draw_split ?_ ?_ | refine nds_split ?_ ?_) <;> (conv => whnf); (try simp only [zZ43_0])) | ((first | refine V.s1 ?_ | ((with_reducible refine recheck_and ?_ ?_); (focus ((conv => whnf); (try simp only [zZ43_0]); (repeat (refine V.s1 ?_; (try simp only [zZ43_0]))); exact ⟨rfl⟩)); (conv => whnf)) | ((try ((with_reducible refine .ext ?_); (conv => whnf); (try simp only [zZ43_0]))); (with_reducible refine call_intro (r := ?_) ?_ ?_); rotate_left; (focus (first | exact (c1) | exact (c2))); (conv => whnf))); (try simp only [zZ43_0])) | (refine And.intro ?_ ?_ <;> (conv => whnf); (try simp only [zZ43_0])))
  (conv => whnf)
  (try simp only [Nat.zero_add])
  repeat ((first | refine V.s1 ?_); (try simp only [Nat.zero_add]))
  exact Fin.of rfl
theorem rplace_5 : Called Tryz.prog 52 [.int .i64 5] (.tup [frT (lxQ 5), frT (lyQ 5)]) := by
  have c1 := r23of (n := 31272) (m := 100000) (by omega) (by omega)
  have c2 := r23of (n := 32903) (m := 100000) (by omega) (by omega)
  have e0 : lxQ 5 = Rat.divInt 31272 100000 := by simp [lxQ]
  have e1 : lyQ 5 = Rat.divInt 32903 100000 := by simp [lyQ]
  rw [e0, e1]
  unfold frT at *
  generalize Rat.divInt 31272 100000 = p at *
  generalize Rat.divInt 32903 100000 = q at *
  refine called_of_run tbOk 6 ⟨Tryz.func52, rfl, rfl, Nat.le_of_ble_eq_true rfl⟩ ?_
  (conv => whnf)
  (conv => whnf)
  (try simp only [Nat.zero_add])
  repeat ((first | refine V.s1 ?_); (try simp only [Nat.zero_add]))
  refine ⟨(.take 0 (.take 1 (.take 2 (.take 3 (.take 4 (.take 6 (.take 7 (.take 8 (.take 9 (.take 10 (.ev (.cons 5 [10, 9, 8, 7, 6] (.ev (.cons 11 [] (.ev (.cons 12 [] (.ev (.cons 13 [] (.done) (.nil))) (.nil))) (.nil))) (.nil))))))))))))), [], ⟨by kernel_rfl, by kernel_rfl, by kernel_rfl, by kernel_rfl⟩, ?_⟩
  refine drw_meet [] [(2, .box [.str (decZ p.num), .str (dec p.den)]), (3, .box [.str (decZ q.num), .str (dec q.den)])] ?_ ?_
  · (conv => whnf); (try simp only [zZ43_0])
    repeat' (first | exact V.wk | ((with_reducible refine And.intro ?_ draw_nil); (conv => whnf); (try simp only [zZ43_0])) | ((with_reducible first | refine draw_split ?_ ?_ | refine nds_split ?_ ?_) <;> (conv => whnf); (try simp only [zZ43_0])) | ((first | refine V.s1 ?_ | ((with_reducible refine recheck_and ?_ ?_); (focus ((conv => whnf); (try simp only [zZ43_0]); (repeat (refine V.s1 ?_; (try simp only [zZ43_0]))); exact ⟨rfl⟩)); (conv => whnf)) | ((try ((with_reducible refine .ext ?_); (conv => whnf); (try simp only [zZ43_0]))); (with_reducible refine call_intro (r := ?_) ?_ ?_); rotate_left; (focus (first | exact (c1) | exact (c2))); (conv => whnf))); (try simp only [zZ43_0])) | (refine And.intro ?_ ?_ <;> (conv => whnf); (try simp only [zZ43_0])))
  (conv => whnf)
  (try simp only [Nat.zero_add])
  repeat ((first | refine V.s1 ?_); (try simp only [Nat.zero_add]))
  exact Fin.of rfl
theorem rplace_6 : Called Tryz.prog 52 [.int .i64 6] (.tup [frT (lxQ 6), frT (lyQ 6)]) := by
  have c1 := r23of (n := 29902) (m := 100000) (by omega) (by omega)
  have c2 := r23of (n := 31485) (m := 100000) (by omega) (by omega)
  have e0 : lxQ 6 = Rat.divInt 29902 100000 := by simp [lxQ]
  have e1 : lyQ 6 = Rat.divInt 31485 100000 := by simp [lyQ]
  rw [e0, e1]
  unfold frT at *
  generalize Rat.divInt 29902 100000 = p at *
  generalize Rat.divInt 31485 100000 = q at *
  refine called_of_run tbOk 6 ⟨Tryz.func52, rfl, rfl, Nat.le_of_ble_eq_true rfl⟩ ?_
  (conv => whnf)
  (conv => whnf)
  (try simp only [Nat.zero_add])
  repeat ((first | refine V.s1 ?_); (try simp only [Nat.zero_add]))
  refine ⟨(.take 0 (.take 1 (.take 2 (.take 3 (.take 4 (.take 6 (.take 7 (.take 8 (.take 9 (.take 10 (.ev (.cons 5 [10, 9, 8, 7, 6] (.ev (.cons 11 [] (.ev (.cons 12 [] (.ev (.cons 13 [] (.done) (.nil))) (.nil))) (.nil))) (.nil))))))))))))), [], ⟨by kernel_rfl, by kernel_rfl, by kernel_rfl, by kernel_rfl⟩, ?_⟩
  refine drw_meet [] [(2, .box [.str (decZ p.num), .str (dec p.den)]), (3, .box [.str (decZ q.num), .str (dec q.den)])] ?_ ?_
  · (conv => whnf); (try simp only [zZ43_0])
    repeat' (first | exact V.wk | ((with_reducible refine And.intro ?_ draw_nil); (conv => whnf); (try simp only [zZ43_0])) | ((with_reducible first | refine draw_split ?_ ?_ | refine nds_split ?_ ?_) <;> (conv => whnf); (try simp only [zZ43_0])) | ((first | refine V.s1 ?_ | ((with_reducible refine recheck_and ?_ ?_); (focus ((conv => whnf); (try simp only [zZ43_0]); (repeat (refine V.s1 ?_; (try simp only [zZ43_0]))); exact ⟨rfl⟩)); (conv => whnf)) | ((try ((with_reducible refine .ext ?_); (conv => whnf); (try simp only [zZ43_0]))); (with_reducible refine call_intro (r := ?_) ?_ ?_); rotate_left; (focus (first | exact (c1) | exact (c2))); (conv => whnf))); (try simp only [zZ43_0])) | (refine And.intro ?_ ?_ <;> (conv => whnf); (try simp only [zZ43_0])))
  (conv => whnf)
  (try simp only [Nat.zero_add])
  repeat ((first | refine V.s1 ?_); (try simp only [Nat.zero_add]))
  exact Fin.of rfl
theorem rplace_7 : Called Tryz.prog 52 [.int .i64 7] (.tup [frT (lxQ 7), frT (lyQ 7)]) := by
  have c1 := r23of (n := 1) (m := 3) (by omega) (by omega)
  have e0 : lxQ 7 = Rat.divInt 1 3 := by simp [lxQ]
  have e1 : lyQ 7 = Rat.divInt 1 3 := by simp [lyQ]
  rw [e0, e1]
  unfold frT at *
  generalize Rat.divInt 1 3 = p at *
  refine called_of_run tbOk 6 ⟨Tryz.func52, rfl, rfl, Nat.le_of_ble_eq_true rfl⟩ ?_
  (conv => whnf)
  (conv => whnf)
  (try simp only [Nat.zero_add])
  repeat ((first | refine V.s1 ?_ | ((try ((with_reducible refine .ext ?_); (conv => whnf); (try simp only [Nat.zero_add]))); (with_reducible refine call_intro (r := ?_) ?_ ?_); rotate_left; (focus (first | exact (c1))); (conv => whnf))); (try simp only [Nat.zero_add]))
  exact Fin.of rfl
end Go.Proofs.YtfilfmadapjajaaGreatDoor
end
section
namespace Go.Proofs.YtfilfmadapjajaaGreatDoor
open Go Go.V Go.Nb
theorem rfrom_c {n : Nat} {x y l : Tx} (bx : BdX n x) (b_y : BdX n y) (bl : BdX n l) (h0 : 0 < n ∧ n ≤ 100) : Called Tryz.prog 26 [txD x, txD y, txD l] (fromX x y l) := by
  have f1 := rfracs3 x.1 x.2 y.1 y.2 l.1 l.2 _ _ _ (rcheck_c _ _ bx.1.1 bx.1.2) (rcheck_c _ _ b_y.1.1 b_y.1.2) (rcheck_c _ _ bl.1.1 bl.1.2)
  rw [fst3_ok] at f1
  have hc : (okP x.1 x.2 && okP y.1 y.2 && okP l.1 l.2) = (okX x && okX y && okX l) := rfl
  rw [hc] at f1
  unfold fromX
  by_cases h : (okX x && okX y && okX l) = true
  · rw [if_pos h] at f1 ⊢
    simp only [Bool.and_eq_true] at h
    obtain ⟨⟨hx, hy⟩, hl⟩ := h
    have qx := bx.2 hx
    have qy := b_y.2 hy
    have ql := bl.2 hl
    have e0 := txD_q hx
    have e1 := txD_q hy
    have e2 := txD_q hl
    have s0 := (sgn_x hx bx ⟨h0.1, by omega⟩).2
    have s1 := (sgn_x hy b_y ⟨h0.1, by omega⟩).2
    have s2 := (sgn_x hl bl ⟨h0.1, by omega⟩).2
    have r1 := r23of (n := 1) (m := 1) (by omega) (by omega)
    have ad := zradd qx qy h0.1 h0.1 (by omega)
    have fz := fq_one.sub (qx.add qy)
    have sb := zrsub fq_one (qx.add qy) (by omega) (by omega) (by omega)
    have sz := rsign_t fz ⟨by omega, by omega⟩
    have m1 := zrmul qx ql h0.1 h0.1 (by omega)
    have m2 := zrmul fz ql (by omega) h0.1 (by omega)
    have ez : 1 - (qX x + qX y) = 1 - qX x - qX y := by grind
    rw [one_divInt] at r1
    rw [ordQ_zero] at sz
    have nz : (1 - (qX x + qX y)).num < 0 ↔ 1 < qX x + qX y := by
      constructor
      · intro g
        have g2 : ¬ 0 ≤ 1 - (qX x + qX y) := fun g3 => by
          have := Rat.num_nonneg.2 g3
          omega
        exact Rat.not_le.1 fun g3 => g2 (by grind)
      · intro g
        have g2 : ¬ 0 ≤ 1 - (qX x + qX y) := fun g3 => by
          exact absurd g (Rat.not_lt.2 (by grind))
        have : ¬ 0 ≤ (1 - (qX x + qX y)).num := fun g3 => g2 (Rat.num_nonneg.1 g3)
        omega
    have gs : (1 - (qX x + qX y)).num.sign < 0 ↔ 1 < qX x + qX y := by rw [sgn_lt]; exact nz
    by_cases g : (qX x).num < 0 ∨ (qX y).num < 0 ∨ (qX l).num < 0
    · rw [if_pos (by
        rcases g with g | g | g
        · exact .inl g
        · exact .inr (.inl g)
        · exact .inr (.inr (.inl g)))]
      exact rfrom_neg _ _ _ _ _ _ _ _ _ (by simp only [sgn_lt]; exact g) f1 s0 s1 s2
    · have gn : ¬ (qX x).num.sign < 0 ∧ ¬ (qX y).num.sign < 0 ∧ ¬ (qX l).num.sign < 0 := by simp only [sgn_lt]; omega
      by_cases g3 : 1 < qX x + qX y
      · rw [if_pos (.inr (.inr (.inr g3)))]
        have k := gs.2 g3
        rw [← e0, ← e1] at ad
        unfold txD frT at ad
        unfold frT at r1 sb sz
        exact rfrom_big _ _ _ _ _ _ _ _ _ _ _ _ _ _ _ _ gn k f1 s0 s1 s2 r1 ad sb sz
      · have k : ¬ (1 - (qX x + qX y)).num.sign < 0 := fun h => g3 (gs.1 h)
        rw [if_neg (fun hh => by
          rcases hh with hh | hh | hh | hh
          · exact g (.inl hh)
          · exact g (.inr (.inl hh))
          · exact g (.inr (.inr hh))
          · exact g3 hh)]
        rw [← e0, ← e1] at ad
        by_cases g4 : (qX y).num = 0
        · rw [if_pos g4]
          unfold txD frT at ad
          unfold frT at r1 sb sz
          exact rfrom_zero _ _ _ _ _ _ _ _ _ _ _ _ _ _ _ _ gn k (by rw [sgn_eq]; exact g4) f1 s0 s1 s2 r1 ad sb sz
        · rw [if_neg g4]
          have d1 := zrdiv (qx.mul ql) qy g4 (by omega) h0.1 (by omega)
          have d2 := zrdiv (fz.mul ql) qy g4 (by omega) h0.1 (by omega)
          rw [← e0, ← e2] at m1
          rw [← e2] at m2
          rw [← e1] at d1 d2
          unfold txD frT at ad m1 m2 d1 d2
          unfold frT at r1 sb sz
          have c := rfrom_ok _ _ _ _ _ _ _ _ _ _ _ _ _ _ _ _ _ _ _ _ _ _ _ _ gn k (by rw [sgn_eq]; exact g4) f1 s0 s1 s2 r1 ad sb sz m1 d1 m2 d2
          have el := qX_text hl
          unfold colX triE
          dsimp only
          rw [el, ← ez]
          exact c
  · rw [if_neg h] at f1 ⊢
    exact rfrom_no _ _ _ _ _ _ _ (by omega) f1
end Go.Proofs.YtfilfmadapjajaaGreatDoor
end
section
namespace Go.Proofs.YtfilfmadapjajaaGreatDoor
open Go Go.V Go.Nb
theorem rwhite_no (n : Int) (h : n < 1 ∨ 7 < n) : Called Tryz.prog 20 [.int .i64 n] (triE no3 2) := by
  refine called_of_run tbOk 6 ⟨Tryz.func20, rfl, rfl, Nat.le_of_ble_eq_true rfl⟩ ?_
  (conv => whnf)
  (conv => whnf)
  (try simp only [Nat.zero_add])
  repeat ((first | refine V.s1 ?_); (try simp only [Nat.zero_add]))
  refine Cnd.split (CondB.mk (fun hq => ?_) (fun hq => ?_))
  · (conv => whnf)
    (try simp only [Nat.zero_add])
    repeat ((first | refine V.s1 ?_); (try simp only [Nat.zero_add]))
    exact Fin.of rfl
  · exfalso
    simp at hq
    omega
theorem rwhite_t (n : Int) (p0 p1 q0 q1 u0 u1 a0 a1 b0 b1 c0 c1 : List UInt8) (e : Int) (h : 1 ≤ n ∧ n ≤ 7) (pl : Called Tryz.prog 52 [.int .i64 n] (.tup [.agg [.str p0, .str p1], .agg [.str q0, .str q1]]))
    (o : Called Tryz.prog 42 [.int .i64 1, .int .i64 1] (.agg [.str u0, .str u1])) (f : Called Tryz.prog 26 [.agg [.str p0, .str p1], .agg [.str q0, .str q1], .agg [.str u0, .str u1]] (.tup [.agg [.str a0, .str a1, .str b0, .str b1, .str c0, .str c1], .int .i64 e])) :
    Called Tryz.prog 20 [.int .i64 n] (.tup [.agg [.str a0, .str a1, .str b0, .str b1, .str c0, .str c1], .int .i64 e]) := by
  refine called_of_run tbOk 6 ⟨Tryz.func20, rfl, rfl, Nat.le_of_ble_eq_true rfl⟩ ?_
  (conv => whnf)
  (conv => whnf)
  (try simp only [Nat.zero_add])
  repeat ((first | refine V.s1 ?_); (try simp only [Nat.zero_add]))
  refine Cnd.split (CondB.mk (fun hq => ?_) (fun hq => ?_))
  · exfalso
    simp at hq
    omega
  (conv => whnf)
  (try simp only [Nat.zero_add])
  repeat ((first | refine V.s1 ?_ | ((try ((with_reducible refine .ext ?_); (conv => whnf); (try simp only [Nat.zero_add]))); (with_reducible refine call_intro (r := ?_) ?_ ?_); rotate_left; (focus (first | exact (pl))); (conv => whnf))); (try simp only [Nat.zero_add]))
  refine ⟨(.take 0 (.take 1 (.ev (.cons 2 [1, 0] (.ev (.cons 3 [] (.take 4 (.take 5 (.ev (.cons 6 [] (.take 7 (.done)) (.nil))))) (.nil))) (.nil))))), [], ⟨by kernel_rfl, by kernel_rfl, by kernel_rfl, by kernel_rfl⟩, ?_⟩
  refine drw_meet [(3, .int .i64 e)] [(2, .box [.str a0, .str a1, .str b0, .str b1, .str c0, .str c1])] ?_ ?_
  · (conv => whnf); (try simp only [Nat.zero_add])
    repeat' (first | exact V.wk | ((with_reducible refine And.intro ?_ draw_nil); (conv => whnf); (try simp only [Nat.zero_add])) | ((with_reducible first | refine draw_split ?_ ?_ | refine nds_split ?_ ?_) <;> (conv => whnf); (try simp only [Nat.zero_add])) | ((first | refine V.s1 ?_ | ((with_reducible refine recheck_and ?_ ?_); (focus ((conv => whnf); (try simp only [Nat.zero_add]); (repeat (refine V.s1 ?_; (try simp only [Nat.zero_add]))); exact ⟨rfl⟩)); (conv => whnf)) | ((try ((with_reducible refine .ext ?_); (conv => whnf); (try simp only [Nat.zero_add]))); (with_reducible refine call_intro (r := ?_) ?_ ?_); rotate_left; (focus (first | exact (o) | exact (f))); (conv => whnf))); (try simp only [Nat.zero_add])) | (refine And.intro ?_ ?_ <;> (conv => whnf); (try simp only [Nat.zero_add])))
  (conv => whnf)
  (try simp only [Nat.zero_add])
  repeat ((first | refine V.s1 ?_); (try simp only [Nat.zero_add]))
  exact Fin.of rfl
theorem rw_q {n : Nat} {x y l : Rat} (hx : Fq n x) (hy : Fq n y) (hl : Fq n l) (h0 : 0 < n ∧ n ≤ 100) (px : ¬ x.num < 0) (py : ¬ y.num < 0) (pl : ¬ l.num < 0) (p1 : ¬ 1 < x + y) (g : ¬ y.num = 0) :
    Called Tryz.prog 26 [frT x, frT y, frT l] (triE (colX x y l) 0) := by
  have k0 : 0 < n ∧ n ≤ 600 := ⟨h0.1, by omega⟩
  have c := rfrom_c (n := n) (x := xT x) (y := xT y) (l := xT l) (xT_bd hx k0) (xT_bd hy k0) (xT_bd hl k0) h0
  unfold fromX at c
  rw [(xT_ok hx k0).1, (xT_ok hy k0).1, (xT_ok hl k0).1, if_pos (show (true && true && true) = true from rfl), (xT_ok hx k0).2, (xT_ok hy k0).2, (xT_ok hl k0).2, if_neg (fun h => by
    rcases h with h | h | h | h
    · exact px h
    · exact py h
    · exact pl h
    · exact p1 h), if_neg g] at c
  exact c
theorem whr_1 : Called Tryz.prog 20 [.int .i64 1] (triE (colX (lxQ 1) (lyQ 1) 1) 0) := by
  have f0 := fq_small (n := 44757) (m := 100000) (by omega) (by omega)
  have f1 := fq_small (n := 40745) (m := 100000) (by omega) (by omega)
  have e0 : lxQ 1 = Rat.divInt 44757 100000 := by simp [lxQ]
  have e1 : lyQ 1 = Rat.divInt 40745 100000 := by simp [lyQ]
  have o := r23of (n := 1) (m := 1) (by omega) (by omega)
  rw [one_divInt] at o
  have c := rw_q f0 f1 (fq_one.mono (by omega)) (by omega) (by decide +kernel) (by decide +kernel) (by decide +kernel) (by decide +kernel) (by decide +kernel)
  have pl := rplace_1
  rw [e0, e1] at pl ⊢
  unfold frT at c o pl
  exact rwhite_t _ _ _ _ _ _ _ _ _ _ _ _ _ _ (by omega) pl o c
theorem whr_2 : Called Tryz.prog 20 [.int .i64 2] (triE (colX (lxQ 2) (lyQ 2) 1) 0) := by
  have f0 := fq_small (n := 31006) (m := 100000) (by omega) (by omega)
  have f1 := fq_small (n := 31616) (m := 100000) (by omega) (by omega)
  have e0 : lxQ 2 = Rat.divInt 31006 100000 := by simp [lxQ]
  have e1 : lyQ 2 = Rat.divInt 31616 100000 := by simp [lyQ]
  have o := r23of (n := 1) (m := 1) (by omega) (by omega)
  rw [one_divInt] at o
  have c := rw_q f0 f1 (fq_one.mono (by omega)) (by omega) (by decide +kernel) (by decide +kernel) (by decide +kernel) (by decide +kernel) (by decide +kernel)
  have pl := rplace_2
  rw [e0, e1] at pl ⊢
  unfold frT at c o pl
  exact rwhite_t _ _ _ _ _ _ _ _ _ _ _ _ _ _ (by omega) pl o c
theorem whr_3 : Called Tryz.prog 20 [.int .i64 3] (triE (colX (lxQ 3) (lyQ 3) 1) 0) := by
  have f0 := fq_small (n := 34567) (m := 100000) (by omega) (by omega)
  have f1 := fq_small (n := 35850) (m := 100000) (by omega) (by omega)
  have e0 : lxQ 3 = Rat.divInt 34567 100000 := by simp [lxQ]
  have e1 : lyQ 3 = Rat.divInt 35850 100000 := by simp [lyQ]
  have o := r23of (n := 1) (m := 1) (by omega) (by omega)
  rw [one_divInt] at o
  have c := rw_q f0 f1 (fq_one.mono (by omega)) (by omega) (by decide +kernel) (by decide +kernel) (by decide +kernel) (by decide +kernel) (by decide +kernel)
  have pl := rplace_3
  rw [e0, e1] at pl ⊢
  unfold frT at c o pl
  exact rwhite_t _ _ _ _ _ _ _ _ _ _ _ _ _ _ (by omega) pl o c
theorem whr_4 : Called Tryz.prog 20 [.int .i64 4] (triE (colX (lxQ 4) (lyQ 4) 1) 0) := by
  have f0 := fq_small (n := 33242) (m := 100000) (by omega) (by omega)
  have f1 := fq_small (n := 34743) (m := 100000) (by omega) (by omega)
  have e0 : lxQ 4 = Rat.divInt 33242 100000 := by simp [lxQ]
  have e1 : lyQ 4 = Rat.divInt 34743 100000 := by simp [lyQ]
  have o := r23of (n := 1) (m := 1) (by omega) (by omega)
  rw [one_divInt] at o
  have c := rw_q f0 f1 (fq_one.mono (by omega)) (by omega) (by decide +kernel) (by decide +kernel) (by decide +kernel) (by decide +kernel) (by decide +kernel)
  have pl := rplace_4
  rw [e0, e1] at pl ⊢
  unfold frT at c o pl
  exact rwhite_t _ _ _ _ _ _ _ _ _ _ _ _ _ _ (by omega) pl o c
theorem whr_5 : Called Tryz.prog 20 [.int .i64 5] (triE (colX (lxQ 5) (lyQ 5) 1) 0) := by
  have f0 := fq_small (n := 31272) (m := 100000) (by omega) (by omega)
  have f1 := fq_small (n := 32903) (m := 100000) (by omega) (by omega)
  have e0 : lxQ 5 = Rat.divInt 31272 100000 := by simp [lxQ]
  have e1 : lyQ 5 = Rat.divInt 32903 100000 := by simp [lyQ]
  have o := r23of (n := 1) (m := 1) (by omega) (by omega)
  rw [one_divInt] at o
  have c := rw_q f0 f1 (fq_one.mono (by omega)) (by omega) (by decide +kernel) (by decide +kernel) (by decide +kernel) (by decide +kernel) (by decide +kernel)
  have pl := rplace_5
  rw [e0, e1] at pl ⊢
  unfold frT at c o pl
  exact rwhite_t _ _ _ _ _ _ _ _ _ _ _ _ _ _ (by omega) pl o c
theorem whr_6 : Called Tryz.prog 20 [.int .i64 6] (triE (colX (lxQ 6) (lyQ 6) 1) 0) := by
  have f0 := fq_small (n := 29902) (m := 100000) (by omega) (by omega)
  have f1 := fq_small (n := 31485) (m := 100000) (by omega) (by omega)
  have e0 : lxQ 6 = Rat.divInt 29902 100000 := by simp [lxQ]
  have e1 : lyQ 6 = Rat.divInt 31485 100000 := by simp [lyQ]
  have o := r23of (n := 1) (m := 1) (by omega) (by omega)
  rw [one_divInt] at o
  have c := rw_q f0 f1 (fq_one.mono (by omega)) (by omega) (by decide +kernel) (by decide +kernel) (by decide +kernel) (by decide +kernel) (by decide +kernel)
  have pl := rplace_6
  rw [e0, e1] at pl ⊢
  unfold frT at c o pl
  exact rwhite_t _ _ _ _ _ _ _ _ _ _ _ _ _ _ (by omega) pl o c
theorem whr_7 : Called Tryz.prog 20 [.int .i64 7] (triE (colX (lxQ 7) (lyQ 7) 1) 0) := by
  have f0 := fq_small (n := 1) (m := 3) (by omega) (by omega)
  have f1 := fq_small (n := 1) (m := 3) (by omega) (by omega)
  have e0 : lxQ 7 = Rat.divInt 1 3 := by simp [lxQ]
  have e1 : lyQ 7 = Rat.divInt 1 3 := by simp [lyQ]
  have o := r23of (n := 1) (m := 1) (by omega) (by omega)
  rw [one_divInt] at o
  have c := rw_q f0 f1 (fq_one.mono (by omega)) (by omega) (by decide +kernel) (by decide +kernel) (by decide +kernel) (by decide +kernel) (by decide +kernel)
  have pl := rplace_7
  rw [e0, e1] at pl ⊢
  unfold frT at c o pl
  exact rwhite_t _ _ _ _ _ _ _ _ _ _ _ _ _ _ (by omega) pl o c
theorem rwhite_c (n : Int) : Called Tryz.prog 20 [.int .i64 n] (whX n) := by
  unfold whX
  split
  · rename_i h
    exact rwhite_no n h
  · rename_i h
    have h7 : n = 1 ∨ n = 2 ∨ n = 3 ∨ n = 4 ∨ n = 5 ∨ n = 6 ∨ n = 7 := by omega
    rcases h7 with e | e | e | e | e | e | e
    all_goals subst e
    · exact whr_1
    · exact whr_2
    · exact whr_3
    · exact whr_4
    · exact whr_5
    · exact whr_6
    · exact whr_7
end Go.Proofs.YtfilfmadapjajaaGreatDoor
end
section
namespace Go.Proofs.YtfilfmadapjajaaGreatDoor
open Go Go.V Go.Nb
theorem kk5 : ((5 : Nat) : Int) = 5 := rfl
theorem kk6 : ((6 : Nat) : Int) = 6 := rfl
theorem kt4 : (4 : Int).toNat = 4 := rfl
theorem kt5 : (5 : Int).toNat = 5 := rfl
theorem same_c (a0 a1 b0 b1 c0 c1 : List UInt8) (e : Int) : Called Tryz.prog 21 [.agg [.str a0, .str a1, .str b0, .str b1, .str c0, .str c1], .int .i64 e, .agg [.str a0, .str a1, .str b0, .str b1, .str c0, .str c1], .int .i64 e] (.bool true) := by
  refine called_of_run tbOk 6 ⟨Tryz.func21, rfl, rfl, Nat.le_of_ble_eq_true rfl⟩ ?_
  (conv => whnf)
  refine V.st ?_
  exact Fin.of (by simp)
def Bd3 (a0 a1 b0 b1 c0 c1 : List UInt8) : Prop := BdX 20 (a0, a1) ∧ BdX 20 (b0, b1) ∧ BdX 20 (c0, c1)
theorem xT_bd' {n : Nat} {q : Rat} (h : Fq n q) (h0 : 0 < n ∧ n ≤ 20) : BdX 20 (decZ q.num, dec q.den) := (xT_bd h ⟨h0.1, by omega⟩).mono (by omega)
theorem tri_x (a b c : Int) (ha : 0 ≤ a ∧ a ≤ 65535) (hb : 0 ≤ b ∧ b ≤ 65535) (hc : 0 ≤ c ∧ c ≤ 65535) : ∃ a0 a1 b0 b1 c0 c1, Called Tryz.prog 12 [.iarr .u16 [a, b, c]] (.agg [.str a0, .str a1, .str b0, .str b1, .str c0, .str c1]) ∧ Bd3 a0 a1 b0 b1 c0 c1 :=
  ⟨_, _, _, _, _, _, tri_c a b c ha hb hc, xT_bd' (fq_colour ha) (by omega), xT_bd' (fq_colour hb) (by omega), xT_bd' (fq_colour hc) (by omega)⟩
theorem white_x (a b c : Int) (ha : 0 ≤ a ∧ a ≤ 65535) (hb : 0 ≤ b ∧ b ≤ 65535) (hc : 0 ≤ c ∧ c ≤ 65535) : ∃ a0 a1 b0 b1 c0 c1, Called Tryz.prog 13 [.iarr .u16 [a, b, c]] (.agg [.str a0, .str a1, .str b0, .str b1, .str c0, .str c1]) ∧ Bd3 a0 a1 b0 b1 c0 c1 :=
  ⟨_, _, _, _, _, _, white_c a b c ha hb hc, xT_bd' (fq_colour (by omega)) (by omega), xT_bd' (fq_colour (by omega)) (by omega), xT_bd' (fq_colour (by omega)) (by omega)⟩
theorem fq_num {n d : Int} (hn : -32768 ≤ n ∧ n ≤ 32767) (hd : 0 ≤ d ∧ d ≤ 255) : Fq 5 (numQ n d) := by
  unfold numQ
  obtain ⟨m, hm⟩ : ∃ m : Nat, 1 + d = m := ⟨(1 + d).toNat, by omega⟩
  rw [hm]
  exact fq_divInt (by omega) (by omega) (by omega)
theorem num_x (n d : Int) (hn : -32768 ≤ n ∧ n ≤ 32767) (hd : 0 ≤ d ∧ d ≤ 255) : ∃ t0 t1, Called Tryz.prog 22 [.agg [.int .i16 n, .int .u8 d]] (.agg [.str t0, .str t1]) ∧ BdX 20 (t0, t1) :=
  ⟨_, _, numFrac_c n d hn hd, xT_bd' (fq_num hn hd) (by omega)⟩
theorem share_x (n d : Int) (hn : -32768 ≤ n ∧ n ≤ 32767) (hd : 0 ≤ d ∧ d ≤ 255) : ∃ t0 t1, Called Tryz.prog 23 [.agg [.int .i16 n, .int .u8 d]] (.agg [.str t0, .str t1]) ∧ BdX 20 (t0, t1) :=
  ⟨_, _, numShare_c n d hn hd, xT_bd' (fq_share hd) (by omega)⟩
theorem odd_x (s t : List UInt8) : ∃ t0 t1, Called Tryz.prog 24 [.agg [.str s, .str t]] (.agg [.str t0, .str t1]) ∧ BdX 20 (t0, t1) :=
  ⟨_, _, oddFrac_c s t, odd_bd (by simp; omega) (by simp; omega)⟩
theorem zZ49_0 : type_of% @Nat.zero_add ∧ type_of% @tn0 ∧ type_of% @tn1 ∧ type_of% @tn2 := ⟨@Nat.zero_add, @tn0, @tn1, @tn2⟩
theorem bend_x (k : Int) (s t a0 a1 b0 b1 c0 c1 : List UInt8) (hk : 0 ≤ k ∧ k ≤ 255) (h : Bd3 a0 a1 b0 b1 c0 c1) : ∃ u0 u1 v0 v1 w0 w1, Called Tryz.prog 14 [.agg [.int .u8 k, .str s, .str t], .agg [.str a0, .str a1, .str b0, .str b1, .str c0, .str c1]] (.agg [.str u0, .str u1, .str v0, .str v1, .str w0, .str w1]) ∧ Bd3 u0 u1 v0 v1 w0 w1 := by
  obtain ⟨t0, t1, c, b⟩ := odd_x s t
  have h3 : k % 3 = 0 ∨ k % 3 = 1 ∨ k % 3 = 2 := by omega
  rcases h3 with e | e | e
  · refine ⟨t0, t1, b0, b1, c0, c1, ?_, b, h.2.1, h.2.2⟩
    refine called_of_run tbOk 6 ⟨Tryz.func14, rfl, rfl, Nat.le_of_ble_eq_true rfl⟩ ?_
    (conv => whnf)
    (conv => whnf)
    (try simp only [Nat.zero_add])
    repeat ((first | refine V.s1 ?_); (try simp only [Nat.zero_add]))
    refine ⟨(.take 0 (.take 1 (.take 2 (.take 3 (.take 4 (.ev (.cons 5 [2, 1, 0] (.take 6 (.ev (.cons 7 [] (.done) (.nil)))) (.nil)))))))), [], ⟨by kernel_rfl, by kernel_rfl, by kernel_rfl, by kernel_rfl⟩, ?_⟩
    refine drw_meet [] [(3, .box [.str t0, .str t1, .str b0, .str b1, .str c0, .str c1])] ?_ ?_
    · (conv => whnf); (try simp only [zZ49_0, e])
      repeat' (first | exact V.wk | ((with_reducible refine And.intro ?_ draw_nil); (conv => whnf); (try simp only [zZ49_0, e])) | ((with_reducible first | refine draw_split ?_ ?_ | refine nds_split ?_ ?_) <;> (conv => whnf); (try simp only [zZ49_0, e])) | ((first | refine V.s1 ?_ | ((with_reducible refine recheck_and ?_ ?_); (focus ((conv => whnf); (try simp only [zZ49_0, e]); (repeat (refine V.s1 ?_; (try simp only [zZ49_0, e]))); exact ⟨rfl⟩)); (conv => whnf)) | ((try ((with_reducible refine .ext ?_); (conv => whnf); (try simp only [zZ49_0, e]))); (with_reducible refine call_intro (r := ?_) ?_ ?_); rotate_left; (focus (first | exact (c))); (conv => whnf))); (try simp only [zZ49_0, e])) | (refine And.intro ?_ ?_ <;> (conv => whnf); (try simp only [zZ49_0, e])))
    (conv => whnf)
    (try simp only [Nat.zero_add])
    repeat ((first | refine V.s1 ?_); (try simp only [Nat.zero_add]))
    exact Fin.of rfl
  · refine ⟨a0, a1, t0, t1, c0, c1, ?_, h.1, b, h.2.2⟩
    refine called_of_run tbOk 6 ⟨Tryz.func14, rfl, rfl, Nat.le_of_ble_eq_true rfl⟩ ?_
    (conv => whnf)
    (conv => whnf)
    (try simp only [Nat.zero_add])
    repeat ((first | refine V.s1 ?_); (try simp only [Nat.zero_add]))
    refine ⟨(.take 0 (.take 1 (.take 2 (.take 3 (.take 4 (.ev (.cons 5 [2, 1, 0] (.take 6 (.ev (.cons 7 [] (.done) (.nil)))) (.nil)))))))), [], ⟨by kernel_rfl, by kernel_rfl, by kernel_rfl, by kernel_rfl⟩, ?_⟩
    refine drw_meet [] [(3, .box [.str a0, .str a1, .str t0, .str t1, .str c0, .str c1])] ?_ ?_
    · (conv => whnf); (try simp only [zZ49_0, e])
      repeat' (first | exact V.wk | ((with_reducible refine And.intro ?_ draw_nil); (conv => whnf); (try simp only [zZ49_0, e])) | ((with_reducible first | refine draw_split ?_ ?_ | refine nds_split ?_ ?_) <;> (conv => whnf); (try simp only [zZ49_0, e])) | ((first | refine V.s1 ?_ | ((with_reducible refine recheck_and ?_ ?_); (focus ((conv => whnf); (try simp only [zZ49_0, e]); (repeat (refine V.s1 ?_; (try simp only [zZ49_0, e]))); exact ⟨rfl⟩)); (conv => whnf)) | ((try ((with_reducible refine .ext ?_); (conv => whnf); (try simp only [zZ49_0, e]))); (with_reducible refine call_intro (r := ?_) ?_ ?_); rotate_left; (focus (first | exact (c))); (conv => whnf))); (try simp only [zZ49_0, e])) | (refine And.intro ?_ ?_ <;> (conv => whnf); (try simp only [zZ49_0, e])))
    (conv => whnf)
    (try simp only [Nat.zero_add])
    repeat ((first | refine V.s1 ?_); (try simp only [Nat.zero_add]))
    exact Fin.of rfl
  · refine ⟨a0, a1, b0, b1, t0, t1, ?_, h.1, h.2.1, b⟩
    refine called_of_run tbOk 6 ⟨Tryz.func14, rfl, rfl, Nat.le_of_ble_eq_true rfl⟩ ?_
    (conv => whnf)
    (conv => whnf)
    (try simp only [Nat.zero_add])
    repeat ((first | refine V.s1 ?_); (try simp only [Nat.zero_add]))
    refine ⟨(.take 0 (.take 1 (.take 2 (.take 3 (.take 4 (.ev (.cons 5 [2, 1, 0] (.take 6 (.ev (.cons 7 [] (.done) (.nil)))) (.nil)))))))), [], ⟨by kernel_rfl, by kernel_rfl, by kernel_rfl, by kernel_rfl⟩, ?_⟩
    refine drw_meet [] [(3, .box [.str a0, .str a1, .str b0, .str b1, .str t0, .str t1])] ?_ ?_
    · (conv => whnf); (try simp only [zZ49_0, e])
      repeat' (first | exact V.wk | ((with_reducible refine And.intro ?_ draw_nil); (conv => whnf); (try simp only [zZ49_0, e])) | ((with_reducible first | refine draw_split ?_ ?_ | refine nds_split ?_ ?_) <;> (conv => whnf); (try simp only [zZ49_0, e])) | ((first | refine V.s1 ?_ | ((with_reducible refine recheck_and ?_ ?_); (focus ((conv => whnf); (try simp only [zZ49_0, e]); (repeat (refine V.s1 ?_; (try simp only [zZ49_0, e]))); exact ⟨rfl⟩)); (conv => whnf)) | ((try ((with_reducible refine .ext ?_); (conv => whnf); (try simp only [zZ49_0, e]))); (with_reducible refine call_intro (r := ?_) ?_ ?_); rotate_left; (focus (first | exact (c))); (conv => whnf))); (try simp only [zZ49_0, e])) | (refine And.intro ?_ ?_ <;> (conv => whnf); (try simp only [zZ49_0, e])))
    (conv => whnf)
    (try simp only [Nat.zero_add])
    repeat ((first | refine V.s1 ?_); (try simp only [Nat.zero_add]))
    exact Fin.of rfl
end Go.Proofs.YtfilfmadapjajaaGreatDoor
end
section
namespace Go.Proofs.YtfilfmadapjajaaGreatDoor
open Go Go.V Go.Nb
theorem chk_x {a0 a1 b0 b1 c0 c1 : List UInt8} (b : Bd3 a0 a1 b0 b1 c0 c1) : ∃ e f,
    Called Tryz.prog 15 [.agg [.str a0, .str a1, .str b0, .str b1, .str c0, .str c1]] (.int .i64 e) ∧ Called Tryz.prog 16 [.agg [.str a0, .str a1, .str b0, .str b1, .str c0, .str c1]] (.int .i64 e) ∧
    Called Tryz.prog 17 [.agg [.str a0, .str a1, .str b0, .str b1, .str c0, .str c1]] (.int .i64 f) ∧ Called Tryz.prog 18 [.agg [.str a0, .str a1, .str b0, .str b1, .str c0, .str c1]] (.int .i64 f) := by
  have c := chk_c (n := 20) (x := (a0, a1)) (y := (b0, b1)) (z := (c0, c1)) b.1 b.2.1 b.2.2 (by omega)
  exact ⟨_, _, c.lc, c.rc, c.ls, c.rs⟩
theorem whit_x (n : Int) : ∃ u0 u1 v0 v1 w0 w1 e, Called Tryz.prog 19 [.int .i64 n] (.tup [.agg [.str u0, .str u1, .str v0, .str v1, .str w0, .str w1], .int .i64 e]) ∧
    Called Tryz.prog 20 [.int .i64 n] (.tup [.agg [.str u0, .str u1, .str v0, .str v1, .str w0, .str w1], .int .i64 e]) := by
  have l := lwhite_c n
  have r := rwhite_c n
  have f : ∃ x e, whX n = triE x e := by
    unfold whX
    repeat' split
    all_goals exact ⟨_, _, rfl⟩
  obtain ⟨x, e, f⟩ := f
  rw [f] at l r
  exact ⟨_, _, _, _, _, _, _, l, r⟩
end Go.Proofs.YtfilfmadapjajaaGreatDoor
end
section
namespace Go.Proofs.YtfilfmadapjajaaGreatDoor
open Go Go.V Go.Nb
theorem zZ51_0 : type_of% @Nat.zero_add ∧ type_of% @tn0 ∧ type_of% @tn1 ∧ type_of% @tn2 := ⟨@Nat.zero_add, @tn0, @tn1, @tn2⟩
theorem zZ51_1 : type_of% @Nat.zero_add ∧ type_of% @dec_refl ∧ type_of% @dec_reflz := ⟨@Nat.zero_add, @dec_refl, @dec_reflz⟩
theorem lightMakes_c (c0 c1 c2 k n m : Int) (s t : List UInt8) (hc : (0 ≤ c0 ∧ c0 ≤ 65535) ∧ (0 ≤ c1 ∧ c1 ≤ 65535) ∧ (0 ≤ c2 ∧ c2 ≤ 65535)) (hk : 0 ≤ k ∧ k ≤ 255) (hn : InR .i64 n) (hm : 0 ≤ m ∧ m ≤ 255) :
    Called Tryz.prog 3 [.iarr .u16 [c0, c1, c2], .agg [.int .u8 k, .str s, .str t], .int .i64 n, .int .u8 m] (.bool true) := by
  obtain ⟨A0, A1, A2, A3, A4, A5, ta, ba⟩ := tri_x c0 c1 c2 hc.1 hc.2.1 hc.2.2
  obtain ⟨B0, B1, B2, B3, B4, B5, tb', bb⟩ := white_x c0 c1 c2 hc.1 hc.2.1 hc.2.2
  obtain ⟨C0, C1, C2, C3, C4, C5, tc, bc⟩ := bend_x k s t A0 A1 A2 A3 A4 A5 hk ba
  obtain ⟨E0, E1, E2, E3, E4, E5, td, bd⟩ := bend_x k s t B0 B1 B2 B3 B4 B5 hk bb
  obtain ⟨e0, f0, p0, q0, x0, y0⟩ := chk_x ba
  obtain ⟨e1, f1, p1, q1, x1, y1⟩ := chk_x bb
  obtain ⟨e2, f2, p2, q2, x2, y2⟩ := chk_x bc
  obtain ⟨e3, f3, p3, q3, x3, y3⟩ := chk_x bd
  obtain ⟨F0, F1, F2, F3, F4, F5, g0, w0, v0⟩ := whit_x n
  obtain ⟨G0, G1, G2, G3, G4, G5, g1, w1, v1⟩ := whit_x (m % 9)
  clear hc hk ba bb bc bd
  have sm := same_c
  refine called_of_run tbOk 6 ⟨Tryz.func3, rfl, rfl, Nat.le_of_ble_eq_true rfl⟩ ?_
  (conv => whnf)
  (conv => whnf)
  (try simp only [Nat.zero_add])
  repeat ((first | refine V.s1 ?_ | ((try ((with_reducible refine .ext ?_); (conv => whnf); (try simp only [Nat.zero_add]))); (with_reducible refine call_intro (r := ?_) ?_ ?_); rotate_left; (focus (first | exact (works_c))); (conv => whnf))); (try simp only [Nat.zero_add]))
  (conv => whnf)
  (try simp only [Nat.zero_add])
  repeat ((first | refine V.s1 ?_); (try simp only [Nat.zero_add]))
  refine ⟨(.take 0 (.take 2 (.take 4 (.take 5 (.take 8 (.take 9 (.take 13 (.ev (.cons 1 [13, 9, 8, 5, 4, 2] (.ev (.cons 3 [13, 9, 8, 5, 4] (.ev (.cons 6 [13, 9, 8, 4] (.ev (.cons 7 [13, 9, 8] (.ev (.cons 10 [13, 8] (.ev (.cons 11 [13] (.take 12 (.done)) (.nil))) (.nil))) (.nil))) (.nil))) (.nil))) (.nil)))))))))), [], ⟨by kernel_rfl, by kernel_rfl, by kernel_rfl, by kernel_rfl⟩, ?_⟩
  refine drw_meet [(31, .agg [.str A0, .str A1, .str A2, .str A3, .str A4, .str A5, .str B0, .str B1, .str B2, .str B3, .str B4, .str B5, .str C0, .str C1, .str C2, .str C3, .str C4, .str C5, .str E0, .str E1, .str E2, .str E3, .str E4, .str E5]), (32, .int .i64 0)] [] ?_ ?_
  · (conv => whnf); (try simp only [Nat.zero_add])
    repeat' (first | exact V.wk | ((with_reducible refine And.intro ?_ draw_nil); (conv => whnf); (try simp only [Nat.zero_add])) | ((with_reducible first | refine draw_split ?_ ?_ | refine nds_split ?_ ?_) <;> (conv => whnf); (try simp only [Nat.zero_add])) | ((first | refine V.s1 ?_ | ((with_reducible refine recheck_and ?_ ?_); (focus ((conv => whnf); (try simp only [Nat.zero_add]); (repeat (refine V.s1 ?_; (try simp only [Nat.zero_add]))); exact ⟨rfl⟩)); (conv => whnf)) | ((try ((with_reducible refine .ext ?_); (conv => whnf); (try simp only [Nat.zero_add]))); (with_reducible refine call_intro (r := ?_) ?_ ?_); rotate_left; (focus (first | exact (ta) | exact (tb') | exact (tc) | exact (td))); (conv => whnf))); (try simp only [Nat.zero_add])) | (refine And.intro ?_ ?_ <;> (conv => whnf); (try simp only [Nat.zero_add])))
  (conv => whnf)
  (try simp only [zZ51_0])
  repeat ((first | refine V.s1 ?_); (try simp only [zZ51_0]))
  refine lp_any (0) (fun k => k ≤ 4) (fun k => 4 - k) (fun k => [(32, .int .i64 k)]) (fun k => []) ?_ ?_ ?_
  · exact V.wk
  · exact Nat.zero_le _
  intro k hk
  have hk4 : k = 0 ∨ k = 1 ∨ k = 2 ∨ k = 3 ∨ k = 4 := by omega
  rcases hk4 with e | e | e | e | e
  all_goals subst e
  · simp only [k0]
    (conv => whnf)
    (try simp only [Nat.zero_add, tn0, tn1, tn2, dec_refl, dec_reflz, decide_true, Bool.and_true, Bool.true_and, Bool.and_self, Bool.not_true, Bool.not_false, Bool.or_false, Bool.or_self, ne_eq, not_true_eq_false, decide_false])
    repeat ((first | refine V.s1 ?_); (try simp only [Nat.zero_add, tn0, tn1, tn2, dec_refl, dec_reflz, decide_true, Bool.and_true, Bool.true_and, Bool.and_self, Bool.not_true, Bool.not_false, Bool.or_false, Bool.or_self, ne_eq, not_true_eq_false, decide_false]))
    refine ⟨(.take 0 (.take 2 (.ev (.cons 1 [2] (.ev (.cons 3 [] (.take 4 (.take 5 (.take 6 (.take 8 (.ev (.cons 7 [8] (.ev (.cons 9 [] (.take 10 (.take 11 (.done))) (.nil))) (.nil))))))) (.nil))) (.nil))))), [], ⟨by kernel_rfl, by kernel_rfl, by kernel_rfl, by kernel_rfl⟩, ?_⟩
    refine drw_meet [(46, .bool false)] [] ?_ ?_
    · (conv => whnf); (try simp only [zZ51_1, decide_true, Bool.and_true, Bool.true_and, Bool.and_self, Bool.not_true, Bool.not_false, Bool.or_false, Bool.or_self, ne_eq, not_true_eq_false, decide_false])
      repeat' (first | exact V.wk | ((with_reducible refine And.intro ?_ draw_nil); (conv => whnf); (try simp only [zZ51_1, decide_true, Bool.and_true, Bool.true_and, Bool.and_self, Bool.not_true, Bool.not_false, Bool.or_false, Bool.or_self, ne_eq, not_true_eq_false, decide_false])) | ((with_reducible first | refine draw_split ?_ ?_ | refine nds_split ?_ ?_) <;> (conv => whnf); (try simp only [zZ51_1, decide_true, Bool.and_true, Bool.true_and, Bool.and_self, Bool.not_true, Bool.not_false, Bool.or_false, Bool.or_self, ne_eq, not_true_eq_false, decide_false])) | ((first | refine V.s1 ?_ | ((with_reducible refine recheck_and ?_ ?_); (focus ((conv => whnf); (try simp only [zZ51_1, decide_true, Bool.and_true, Bool.true_and, Bool.and_self, Bool.not_true, Bool.not_false, Bool.or_false, Bool.or_self, ne_eq, not_true_eq_false, decide_false]); (repeat (refine V.s1 ?_; (try simp only [zZ51_1, decide_true, Bool.and_true, Bool.true_and, Bool.and_self, Bool.not_true, Bool.not_false, Bool.or_false, Bool.or_self, ne_eq, not_true_eq_false, decide_false]))); exact ⟨rfl⟩)); (conv => whnf)) | ((try ((with_reducible refine .ext ?_); (conv => whnf); (try simp only [zZ51_1, decide_true, Bool.and_true, Bool.true_and, Bool.and_self, Bool.not_true, Bool.not_false, Bool.or_false, Bool.or_self, ne_eq, not_true_eq_false, decide_false]))); (with_reducible refine call_intro (r := ?_) ?_ ?_); rotate_left; (focus (first | exact (p0) | exact (q0) | exact (x0) | exact (y0))); (conv => whnf))); (try simp only [zZ51_1, decide_true, Bool.and_true, Bool.true_and, Bool.and_self, Bool.not_true, Bool.not_false, Bool.or_false, Bool.or_self, ne_eq, not_true_eq_false, decide_false])) | (refine And.intro ?_ ?_ <;> (conv => whnf); (try simp only [zZ51_1, decide_true, Bool.and_true, Bool.true_and, Bool.and_self, Bool.not_true, Bool.not_false, Bool.or_false, Bool.or_self, ne_eq, not_true_eq_false, decide_false])))
    (conv => whnf)
    (try simp only [Nat.zero_add])
    repeat ((first | refine V.s1 ?_); (try simp only [Nat.zero_add]))
    exact ⟨1, by omega, by omega, V.wk⟩
  · simp only [k1]
    (conv => whnf)
    (try simp only [Nat.zero_add, tn0, tn1, tn2, dec_refl, dec_reflz, decide_true, Bool.and_true, Bool.true_and, Bool.and_self, Bool.not_true, Bool.not_false, Bool.or_false, Bool.or_self, ne_eq, not_true_eq_false, decide_false])
    repeat ((first | refine V.s1 ?_); (try simp only [Nat.zero_add, tn0, tn1, tn2, dec_refl, dec_reflz, decide_true, Bool.and_true, Bool.true_and, Bool.and_self, Bool.not_true, Bool.not_false, Bool.or_false, Bool.or_self, ne_eq, not_true_eq_false, decide_false]))
    refine ⟨(.take 0 (.take 2 (.ev (.cons 1 [2] (.ev (.cons 3 [] (.take 4 (.take 5 (.take 6 (.take 8 (.ev (.cons 7 [8] (.ev (.cons 9 [] (.take 10 (.take 11 (.done))) (.nil))) (.nil))))))) (.nil))) (.nil))))), [], ⟨by kernel_rfl, by kernel_rfl, by kernel_rfl, by kernel_rfl⟩, ?_⟩
    refine drw_meet [(46, .bool false)] [] ?_ ?_
    · (conv => whnf); (try simp only [zZ51_1, decide_true, Bool.and_true, Bool.true_and, Bool.and_self, Bool.not_true, Bool.not_false, Bool.or_false, Bool.or_self, ne_eq, not_true_eq_false, decide_false])
      repeat' (first | exact V.wk | ((with_reducible refine And.intro ?_ draw_nil); (conv => whnf); (try simp only [zZ51_1, decide_true, Bool.and_true, Bool.true_and, Bool.and_self, Bool.not_true, Bool.not_false, Bool.or_false, Bool.or_self, ne_eq, not_true_eq_false, decide_false])) | ((with_reducible first | refine draw_split ?_ ?_ | refine nds_split ?_ ?_) <;> (conv => whnf); (try simp only [zZ51_1, decide_true, Bool.and_true, Bool.true_and, Bool.and_self, Bool.not_true, Bool.not_false, Bool.or_false, Bool.or_self, ne_eq, not_true_eq_false, decide_false])) | ((first | refine V.s1 ?_ | ((with_reducible refine recheck_and ?_ ?_); (focus ((conv => whnf); (try simp only [zZ51_1, decide_true, Bool.and_true, Bool.true_and, Bool.and_self, Bool.not_true, Bool.not_false, Bool.or_false, Bool.or_self, ne_eq, not_true_eq_false, decide_false]); (repeat (refine V.s1 ?_; (try simp only [zZ51_1, decide_true, Bool.and_true, Bool.true_and, Bool.and_self, Bool.not_true, Bool.not_false, Bool.or_false, Bool.or_self, ne_eq, not_true_eq_false, decide_false]))); exact ⟨rfl⟩)); (conv => whnf)) | ((try ((with_reducible refine .ext ?_); (conv => whnf); (try simp only [zZ51_1, decide_true, Bool.and_true, Bool.true_and, Bool.and_self, Bool.not_true, Bool.not_false, Bool.or_false, Bool.or_self, ne_eq, not_true_eq_false, decide_false]))); (with_reducible refine call_intro (r := ?_) ?_ ?_); rotate_left; (focus (first | exact (p1) | exact (q1) | exact (x1) | exact (y1))); (conv => whnf))); (try simp only [zZ51_1, decide_true, Bool.and_true, Bool.true_and, Bool.and_self, Bool.not_true, Bool.not_false, Bool.or_false, Bool.or_self, ne_eq, not_true_eq_false, decide_false])) | (refine And.intro ?_ ?_ <;> (conv => whnf); (try simp only [zZ51_1, decide_true, Bool.and_true, Bool.true_and, Bool.and_self, Bool.not_true, Bool.not_false, Bool.or_false, Bool.or_self, ne_eq, not_true_eq_false, decide_false])))
    (conv => whnf)
    (try simp only [Nat.zero_add])
    repeat ((first | refine V.s1 ?_); (try simp only [Nat.zero_add]))
    exact ⟨2, by omega, by omega, V.wk⟩
  · simp only [k2]
    (conv => whnf)
    (try simp only [Nat.zero_add, tn0, tn1, tn2, dec_refl, dec_reflz, decide_true, Bool.and_true, Bool.true_and, Bool.and_self, Bool.not_true, Bool.not_false, Bool.or_false, Bool.or_self, ne_eq, not_true_eq_false, decide_false])
    repeat ((first | refine V.s1 ?_); (try simp only [Nat.zero_add, tn0, tn1, tn2, dec_refl, dec_reflz, decide_true, Bool.and_true, Bool.true_and, Bool.and_self, Bool.not_true, Bool.not_false, Bool.or_false, Bool.or_self, ne_eq, not_true_eq_false, decide_false]))
    refine ⟨(.take 0 (.take 2 (.ev (.cons 1 [2] (.ev (.cons 3 [] (.take 4 (.take 5 (.take 6 (.take 8 (.ev (.cons 7 [8] (.ev (.cons 9 [] (.take 10 (.take 11 (.done))) (.nil))) (.nil))))))) (.nil))) (.nil))))), [], ⟨by kernel_rfl, by kernel_rfl, by kernel_rfl, by kernel_rfl⟩, ?_⟩
    refine drw_meet [(46, .bool false)] [] ?_ ?_
    · (conv => whnf); (try simp only [zZ51_1, decide_true, Bool.and_true, Bool.true_and, Bool.and_self, Bool.not_true, Bool.not_false, Bool.or_false, Bool.or_self, ne_eq, not_true_eq_false, decide_false])
      repeat' (first | exact V.wk | ((with_reducible refine And.intro ?_ draw_nil); (conv => whnf); (try simp only [zZ51_1, decide_true, Bool.and_true, Bool.true_and, Bool.and_self, Bool.not_true, Bool.not_false, Bool.or_false, Bool.or_self, ne_eq, not_true_eq_false, decide_false])) | ((with_reducible first | refine draw_split ?_ ?_ | refine nds_split ?_ ?_) <;> (conv => whnf); (try simp only [zZ51_1, decide_true, Bool.and_true, Bool.true_and, Bool.and_self, Bool.not_true, Bool.not_false, Bool.or_false, Bool.or_self, ne_eq, not_true_eq_false, decide_false])) | ((first | refine V.s1 ?_ | ((with_reducible refine recheck_and ?_ ?_); (focus ((conv => whnf); (try simp only [zZ51_1, decide_true, Bool.and_true, Bool.true_and, Bool.and_self, Bool.not_true, Bool.not_false, Bool.or_false, Bool.or_self, ne_eq, not_true_eq_false, decide_false]); (repeat (refine V.s1 ?_; (try simp only [zZ51_1, decide_true, Bool.and_true, Bool.true_and, Bool.and_self, Bool.not_true, Bool.not_false, Bool.or_false, Bool.or_self, ne_eq, not_true_eq_false, decide_false]))); exact ⟨rfl⟩)); (conv => whnf)) | ((try ((with_reducible refine .ext ?_); (conv => whnf); (try simp only [zZ51_1, decide_true, Bool.and_true, Bool.true_and, Bool.and_self, Bool.not_true, Bool.not_false, Bool.or_false, Bool.or_self, ne_eq, not_true_eq_false, decide_false]))); (with_reducible refine call_intro (r := ?_) ?_ ?_); rotate_left; (focus (first | exact (p2) | exact (q2) | exact (x2) | exact (y2))); (conv => whnf))); (try simp only [zZ51_1, decide_true, Bool.and_true, Bool.true_and, Bool.and_self, Bool.not_true, Bool.not_false, Bool.or_false, Bool.or_self, ne_eq, not_true_eq_false, decide_false])) | (refine And.intro ?_ ?_ <;> (conv => whnf); (try simp only [zZ51_1, decide_true, Bool.and_true, Bool.true_and, Bool.and_self, Bool.not_true, Bool.not_false, Bool.or_false, Bool.or_self, ne_eq, not_true_eq_false, decide_false])))
    (conv => whnf)
    (try simp only [Nat.zero_add])
    repeat ((first | refine V.s1 ?_); (try simp only [Nat.zero_add]))
    exact ⟨3, by omega, by omega, V.wk⟩
  · simp only [k3]
    (conv => whnf)
    (try simp only [Nat.zero_add, tn0, tn1, tn2, tn3, dec_refl, dec_reflz, decide_true, Bool.and_true, Bool.true_and, Bool.and_self, Bool.not_true, Bool.not_false, Bool.or_false, Bool.or_self, ne_eq, not_true_eq_false, decide_false])
    repeat ((first | refine V.s1 ?_); (try simp only [Nat.zero_add, tn0, tn1, tn2, tn3, dec_refl, dec_reflz, decide_true, Bool.and_true, Bool.true_and, Bool.and_self, Bool.not_true, Bool.not_false, Bool.or_false, Bool.or_self, ne_eq, not_true_eq_false, decide_false]))
    refine ⟨(.take 0 (.take 2 (.ev (.cons 1 [2] (.ev (.cons 3 [] (.take 4 (.take 5 (.take 6 (.take 8 (.ev (.cons 7 [8] (.ev (.cons 9 [] (.take 10 (.take 11 (.done))) (.nil))) (.nil))))))) (.nil))) (.nil))))), [], ⟨by kernel_rfl, by kernel_rfl, by kernel_rfl, by kernel_rfl⟩, ?_⟩
    refine drw_meet [(46, .bool false)] [] ?_ ?_
    · (conv => whnf); (try simp only [zZ51_1, decide_true, Bool.and_true, Bool.true_and, Bool.and_self, Bool.not_true, Bool.not_false, Bool.or_false, Bool.or_self, ne_eq, not_true_eq_false, decide_false])
      repeat' (first | exact V.wk | ((with_reducible refine And.intro ?_ draw_nil); (conv => whnf); (try simp only [zZ51_1, decide_true, Bool.and_true, Bool.true_and, Bool.and_self, Bool.not_true, Bool.not_false, Bool.or_false, Bool.or_self, ne_eq, not_true_eq_false, decide_false])) | ((with_reducible first | refine draw_split ?_ ?_ | refine nds_split ?_ ?_) <;> (conv => whnf); (try simp only [zZ51_1, decide_true, Bool.and_true, Bool.true_and, Bool.and_self, Bool.not_true, Bool.not_false, Bool.or_false, Bool.or_self, ne_eq, not_true_eq_false, decide_false])) | ((first | refine V.s1 ?_ | ((with_reducible refine recheck_and ?_ ?_); (focus ((conv => whnf); (try simp only [zZ51_1, decide_true, Bool.and_true, Bool.true_and, Bool.and_self, Bool.not_true, Bool.not_false, Bool.or_false, Bool.or_self, ne_eq, not_true_eq_false, decide_false]); (repeat (refine V.s1 ?_; (try simp only [zZ51_1, decide_true, Bool.and_true, Bool.true_and, Bool.and_self, Bool.not_true, Bool.not_false, Bool.or_false, Bool.or_self, ne_eq, not_true_eq_false, decide_false]))); exact ⟨rfl⟩)); (conv => whnf)) | ((try ((with_reducible refine .ext ?_); (conv => whnf); (try simp only [zZ51_1, decide_true, Bool.and_true, Bool.true_and, Bool.and_self, Bool.not_true, Bool.not_false, Bool.or_false, Bool.or_self, ne_eq, not_true_eq_false, decide_false]))); (with_reducible refine call_intro (r := ?_) ?_ ?_); rotate_left; (focus (first | exact (p3) | exact (q3) | exact (x3) | exact (y3))); (conv => whnf))); (try simp only [zZ51_1, decide_true, Bool.and_true, Bool.true_and, Bool.and_self, Bool.not_true, Bool.not_false, Bool.or_false, Bool.or_self, ne_eq, not_true_eq_false, decide_false])) | (refine And.intro ?_ ?_ <;> (conv => whnf); (try simp only [zZ51_1, decide_true, Bool.and_true, Bool.true_and, Bool.and_self, Bool.not_true, Bool.not_false, Bool.or_false, Bool.or_self, ne_eq, not_true_eq_false, decide_false])))
    (conv => whnf)
    (try simp only [Nat.zero_add])
    repeat ((first | refine V.s1 ?_); (try simp only [Nat.zero_add]))
    exact ⟨4, by omega, by omega, V.wk⟩
  · simp only [k4]
    (conv => whnf)
    (try simp only [zZ51_0])
    repeat ((first | refine V.s1 ?_); (try simp only [zZ51_0]))
    refine lp_any (0) (fun k => k ≤ 2) (fun k => 2 - k) (fun k => [(53, .int .i64 k)]) (fun k => []) ?_ ?_ ?_
    · exact V.wk
    · exact Nat.zero_le _
    intro k hk
    have hk4 : k = 0 ∨ k = 1 ∨ k = 2 := by omega
    rcases hk4 with e | e | e
    all_goals subst e
    · simp only [k0]
      (conv => whnf)
      (try simp only [zZ51_0])
      repeat ((first | refine V.s1 ?_ | ((try ((with_reducible refine .ext ?_); (conv => whnf); (try simp only [zZ51_0]))); (with_reducible refine call_intro (r := ?_) ?_ ?_); rotate_left; (focus (first | exact (w0) | exact (v0) | exact (sm _ _ _ _ _ _ _))); (conv => whnf))); (try simp only [zZ51_0]))
      exact ⟨1, by omega, by omega, V.wk⟩
    · simp only [k1]
      (conv => whnf)
      (try simp only [zZ51_0])
      repeat ((first | refine V.s1 ?_ | ((try ((with_reducible refine .ext ?_); (conv => whnf); (try simp only [zZ51_0]))); (with_reducible refine call_intro (r := ?_) ?_ ?_); rotate_left; (focus (first | exact (w1) | exact (v1) | exact (sm _ _ _ _ _ _ _))); (conv => whnf))); (try simp only [zZ51_0]))
      exact ⟨2, by omega, by omega, V.wk⟩
    · simp only [k2]
      (conv => whnf)
      (try simp only [zZ51_0])
      repeat ((first | refine V.s1 ?_); (try simp only [zZ51_0]))
      exact Fin.of rfl
end Go.Proofs.YtfilfmadapjajaaGreatDoor
end
