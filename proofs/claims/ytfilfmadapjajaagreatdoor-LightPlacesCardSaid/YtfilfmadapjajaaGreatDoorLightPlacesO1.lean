/- What some functions of the program answer at values that mean given lists, texts and numbers, each proved of the program's own code: part 7. Conditions: those that each theorem names. -/
import Derived.Test.YtfilfmadapjajaaGreatDoorH4
import Derived.Test.YtfilfmadapjajaaGreatDoorH5
import Derived.Test.YtfilfmadapjajaaGreatDoorH6
set_option linter.unusedSimpArgs false
set_option linter.unusedVariables false
set_option maxHeartbeats 8000000
set_option maxRecDepth 100000
section
namespace Go.Proofs.YtfilfmadapjajaaGreatDoor
open Go Go.V Go.Nb
theorem rfrom_no (a0 b0 a1 b1 a2 b2 : List UInt8) (e : Int) (he : e ≠ 0) (fr : Called Tryz.prog 46 [.slf 2 3 (fun j => List.take 2 (List.drop (j * 2) [.str a0, .str b0, .str a1, .str b1, .str a2, .str b2]))] (.int .i64 e)) :
    Called Tryz.prog 26 [.agg [.str a0, .str b0], .agg [.str a1, .str b1], .agg [.str a2, .str b2]] (.tup [.agg [.str [], .str [], .str [], .str [], .str [], .str []], .int .i64 e]) := by
  refine called_of_run tbOk 6 ⟨Tryz.func26, rfl, rfl, Nat.le_of_ble_eq_true rfl⟩ ?_
  (conv => whnf)
  (conv => whnf)
  (try simp only [Nat.zero_add])
  repeat ((first | refine V.s1 ?_ | ((try ((with_reducible refine .ext ?_); (conv => whnf); (try simp only [Nat.zero_add]))); (with_reducible refine call_intro (r := ?_) ?_ ?_); rotate_left; (focus (first | exact (fr))); (conv => whnf))); (try simp only [Nat.zero_add]))
  refine Cnd.split (CondB.mk (fun hq => ?_) (fun hq => ?_))
  · (conv => whnf)
    (try simp only [Nat.zero_add])
    repeat ((first | refine V.s1 ?_); (try simp only [Nat.zero_add]))
    exact Fin.of rfl
  · exfalso
    simp at hq
    exact he hq
theorem rfrom_neg (a0 b0 a1 b1 a2 b2 : List UInt8) (gx gy gl : Int) (h : gx < 0 ∨ gy < 0 ∨ gl < 0) (fr : Called Tryz.prog 46 [.slf 2 3 (fun j => List.take 2 (List.drop (j * 2) [.str a0, .str b0, .str a1, .str b1, .str a2, .str b2]))] (.int .i64 0))
    (sx : Called Tryz.prog 47 [.agg [.str a0, .str b0]] (.int .i64 gx)) (sy : Called Tryz.prog 47 [.agg [.str a1, .str b1]] (.int .i64 gy)) (sl : Called Tryz.prog 47 [.agg [.str a2, .str b2]] (.int .i64 gl)) :
    Called Tryz.prog 26 [.agg [.str a0, .str b0], .agg [.str a1, .str b1], .agg [.str a2, .str b2]] (.tup [.agg [.str [], .str [], .str [], .str [], .str [], .str []], .int .i64 2]) := by
  refine called_of_run tbOk 6 ⟨Tryz.func26, rfl, rfl, Nat.le_of_ble_eq_true rfl⟩ ?_
  (conv => whnf)
  (conv => whnf)
  (try simp only [Nat.zero_add])
  repeat ((first | refine V.s1 ?_ | ((try ((with_reducible refine .ext ?_); (conv => whnf); (try simp only [Nat.zero_add]))); (with_reducible refine call_intro (r := ?_) ?_ ?_); rotate_left; (focus (first | exact (fr) | exact (sx) | exact (sy) | exact (sl))); (conv => whnf))); (try simp only [Nat.zero_add]))
  refine Cnd.split (CondB.mk (fun hq => ?_) (fun hq => ?_))
  · (conv => whnf)
    (try simp only [Nat.zero_add])
    repeat ((first | refine V.s1 ?_); (try simp only [Nat.zero_add]))
    exact Fin.of rfl
  · exfalso
    simp at hq
    omega
theorem rfrom_big (a0 b0 a1 b1 a2 b2 c0 d0 u0 v0 z0 w0 : List UInt8) (gx gy gl gz : Int) (h : ¬ gx < 0 ∧ ¬ gy < 0 ∧ ¬ gl < 0) (hz : gz < 0) (fr : Called Tryz.prog 46 [.slf 2 3 (fun j => List.take 2 (List.drop (j * 2) [.str a0, .str b0, .str a1, .str b1, .str a2, .str b2]))] (.int .i64 0))
    (sx : Called Tryz.prog 47 [.agg [.str a0, .str b0]] (.int .i64 gx)) (sy : Called Tryz.prog 47 [.agg [.str a1, .str b1]] (.int .i64 gy)) (sl : Called Tryz.prog 47 [.agg [.str a2, .str b2]] (.int .i64 gl))
    (o : Called Tryz.prog 42 [.int .i64 1, .int .i64 1] (.agg [.str c0, .str d0])) (ad : Called Tryz.prog 93 [.agg [.str a0, .str b0], .agg [.str a1, .str b1]] (.tup [.agg [.str u0, .str v0], .int .i64 0]))
    (sb : Called Tryz.prog 91 [.agg [.str c0, .str d0], .agg [.str u0, .str v0]] (.tup [.agg [.str z0, .str w0], .int .i64 0])) (sz : Called Tryz.prog 47 [.agg [.str z0, .str w0]] (.int .i64 gz)) :
    Called Tryz.prog 26 [.agg [.str a0, .str b0], .agg [.str a1, .str b1], .agg [.str a2, .str b2]] (.tup [.agg [.str [], .str [], .str [], .str [], .str [], .str []], .int .i64 2]) := by
  refine called_of_run tbOk 6 ⟨Tryz.func26, rfl, rfl, Nat.le_of_ble_eq_true rfl⟩ ?_
  (conv => whnf)
  (conv => whnf)
  (try simp only [Nat.zero_add])
  repeat ((first | refine V.s1 ?_ | ((try ((with_reducible refine .ext ?_); (conv => whnf); (try simp only [Nat.zero_add]))); (with_reducible refine call_intro (r := ?_) ?_ ?_); rotate_left; (focus (first | exact (fr) | exact (sx) | exact (sy) | exact (sl))); (conv => whnf))); (try simp only [Nat.zero_add]))
  refine Cnd.split (CondB.mk (fun hq => ?_) (fun hq => ?_))
  · exfalso
    simp at hq
    omega
  (conv => whnf)
  (try simp only [Nat.zero_add])
  repeat ((first | refine V.s1 ?_); (try simp only [Nat.zero_add]))
  refine ⟨(.take 1 (.take 2 (.ev (.cons 0 [2, 1] (.ev (.cons 3 [] (.ev (.cons 4 [] (.ev (.cons 5 [] (.ev (.cons 6 [] (.done) (.nil))) (.nil))) (.cons 5 [] (.ev (.cons 4 [] (.ev (.cons 6 [] (.done) (.nil))) (.nil))) (.nil)))) (.cons 5 [2, 1] (.ev (.cons 3 [] (.ev (.cons 4 [] (.ev (.cons 6 [] (.done) (.nil))) (.nil))) (.nil))) (.nil)))) (.cons 5 [2, 1] (.ev (.cons 0 [2, 1] (.ev (.cons 3 [] (.ev (.cons 4 [] (.ev (.cons 6 [] (.done) (.nil))) (.nil))) (.nil))) (.nil))) (.nil)))))), [], ⟨by kernel_rfl, by kernel_rfl, by kernel_rfl, by kernel_rfl⟩, ?_⟩
  refine drw_meet [(10, .box 10 0)] [(10, .box [.str z0, .str w0]), (9, .box [.int .i64 0])] ?_ ?_
  · (conv => whnf); (try simp only [Nat.zero_add])
    repeat' (first | exact V.wk | ((first | refine V.s1 ?_ | ((with_reducible refine recheck_and ?_ ?_); (focus ((conv => whnf); (try simp only [Nat.zero_add]); (repeat (refine V.s1 ?_; (try simp only [Nat.zero_add]))); exact ⟨rfl⟩)); (conv => whnf)) | ((try ((with_reducible refine .ext ?_); (conv => whnf); (try simp only [Nat.zero_add]))); (with_reducible refine call_intro (r := ?_) ?_ ?_); rotate_left; (focus (first | exact (o) | exact (ad) | exact (sb))); (conv => whnf)) | ((with_reducible refine .inl ?_); (conv => whnf); (first | refine ⟨0, _, _, ⟨Tryz.func58, rfl, rfl, Nat.le_of_ble_eq_true rfl⟩, ?_⟩ | refine ⟨0, _, _, ⟨Tryz.func57, rfl, rfl, Nat.le_of_ble_eq_true rfl⟩, ?_⟩ | refine ⟨0, _, _, ⟨Tryz.func92, rfl, rfl, Nat.le_of_ble_eq_true rfl⟩, ?_⟩); (conv => whnf))); (try simp only [Nat.zero_add])) | (refine And.intro ?_ ?_ <;> (conv => whnf); (try simp only [Nat.zero_add])))
  (conv => whnf)
  (try simp only [Nat.zero_add])
  repeat ((first | refine V.s1 ?_ | ((try ((with_reducible refine .ext ?_); (conv => whnf); (try simp only [Nat.zero_add]))); (with_reducible refine call_intro (r := ?_) ?_ ?_); rotate_left; (focus (first | exact (sz))); (conv => whnf))); (try simp only [Nat.zero_add]))
  refine Cnd.split (CondB.mk (fun hq2 => ?_) (fun hq2 => ?_))
  · (conv => whnf)
    (try simp only [Nat.zero_add])
    repeat ((first | refine V.s1 ?_); (try simp only [Nat.zero_add]))
    exact Fin.of rfl
  · exfalso
    simp at hq2
    omega
theorem rfrom_zero (a0 b0 a1 b1 a2 b2 c0 d0 u0 v0 z0 w0 : List UInt8) (gx gy gl gz : Int) (h : ¬ gx < 0 ∧ ¬ gy < 0 ∧ ¬ gl < 0) (hz : ¬ gz < 0) (hy : gy = 0) (fr : Called Tryz.prog 46 [.slf 2 3 (fun j => List.take 2 (List.drop (j * 2) [.str a0, .str b0, .str a1, .str b1, .str a2, .str b2]))] (.int .i64 0))
    (sx : Called Tryz.prog 47 [.agg [.str a0, .str b0]] (.int .i64 gx)) (sy : Called Tryz.prog 47 [.agg [.str a1, .str b1]] (.int .i64 gy)) (sl : Called Tryz.prog 47 [.agg [.str a2, .str b2]] (.int .i64 gl))
    (o : Called Tryz.prog 42 [.int .i64 1, .int .i64 1] (.agg [.str c0, .str d0])) (ad : Called Tryz.prog 93 [.agg [.str a0, .str b0], .agg [.str a1, .str b1]] (.tup [.agg [.str u0, .str v0], .int .i64 0]))
    (sb : Called Tryz.prog 91 [.agg [.str c0, .str d0], .agg [.str u0, .str v0]] (.tup [.agg [.str z0, .str w0], .int .i64 0])) (sz : Called Tryz.prog 47 [.agg [.str z0, .str w0]] (.int .i64 gz)) :
    Called Tryz.prog 26 [.agg [.str a0, .str b0], .agg [.str a1, .str b1], .agg [.str a2, .str b2]] (.tup [.agg [.str [], .str [], .str [], .str [], .str [], .str []], .int .i64 7]) := by
  refine called_of_run tbOk 6 ⟨Tryz.func26, rfl, rfl, Nat.le_of_ble_eq_true rfl⟩ ?_
  (conv => whnf)
  (conv => whnf)
  (try simp only [Nat.zero_add])
  repeat ((first | refine V.s1 ?_ | ((try ((with_reducible refine .ext ?_); (conv => whnf); (try simp only [Nat.zero_add]))); (with_reducible refine call_intro (r := ?_) ?_ ?_); rotate_left; (focus (first | exact (fr) | exact (sx) | exact (sy) | exact (sl))); (conv => whnf))); (try simp only [Nat.zero_add]))
  refine Cnd.split (CondB.mk (fun hq => ?_) (fun hq => ?_))
  · exfalso
    simp at hq
    omega
  (conv => whnf)
  (try simp only [Nat.zero_add])
  repeat ((first | refine V.s1 ?_); (try simp only [Nat.zero_add]))
  refine ⟨(.take 1 (.take 2 (.ev (.cons 0 [2, 1] (.ev (.cons 3 [] (.ev (.cons 4 [] (.ev (.cons 5 [] (.ev (.cons 6 [] (.done) (.nil))) (.nil))) (.cons 5 [] (.ev (.cons 4 [] (.ev (.cons 6 [] (.done) (.nil))) (.nil))) (.nil)))) (.cons 5 [2, 1] (.ev (.cons 3 [] (.ev (.cons 4 [] (.ev (.cons 6 [] (.done) (.nil))) (.nil))) (.nil))) (.nil)))) (.cons 5 [2, 1] (.ev (.cons 0 [2, 1] (.ev (.cons 3 [] (.ev (.cons 4 [] (.ev (.cons 6 [] (.done) (.nil))) (.nil))) (.nil))) (.nil))) (.nil)))))), [], ⟨by kernel_rfl, by kernel_rfl, by kernel_rfl, by kernel_rfl⟩, ?_⟩
  refine drw_meet [(10, .box 10 0)] [(10, .box [.str z0, .str w0]), (9, .box [.int .i64 0])] ?_ ?_
  · (conv => whnf); (try simp only [Nat.zero_add])
    repeat' (first | exact V.wk | ((first | refine V.s1 ?_ | ((with_reducible refine recheck_and ?_ ?_); (focus ((conv => whnf); (try simp only [Nat.zero_add]); (repeat (refine V.s1 ?_; (try simp only [Nat.zero_add]))); exact ⟨rfl⟩)); (conv => whnf)) | ((try ((with_reducible refine .ext ?_); (conv => whnf); (try simp only [Nat.zero_add]))); (with_reducible refine call_intro (r := ?_) ?_ ?_); rotate_left; (focus (first | exact (o) | exact (ad) | exact (sb))); (conv => whnf)) | ((with_reducible refine .inl ?_); (conv => whnf); (first | refine ⟨0, _, _, ⟨Tryz.func58, rfl, rfl, Nat.le_of_ble_eq_true rfl⟩, ?_⟩ | refine ⟨0, _, _, ⟨Tryz.func57, rfl, rfl, Nat.le_of_ble_eq_true rfl⟩, ?_⟩ | refine ⟨0, _, _, ⟨Tryz.func92, rfl, rfl, Nat.le_of_ble_eq_true rfl⟩, ?_⟩); (conv => whnf))); (try simp only [Nat.zero_add])) | (refine And.intro ?_ ?_ <;> (conv => whnf); (try simp only [Nat.zero_add])))
  (conv => whnf)
  (try simp only [Nat.zero_add])
  repeat ((first | refine V.s1 ?_ | ((try ((with_reducible refine .ext ?_); (conv => whnf); (try simp only [Nat.zero_add]))); (with_reducible refine call_intro (r := ?_) ?_ ?_); rotate_left; (focus (first | exact (sz))); (conv => whnf))); (try simp only [Nat.zero_add]))
  refine Cnd.split (CondB.mk (fun hq2 => ?_) (fun hq2 => ?_))
  · exfalso
    simp at hq2
    omega
  (conv => whnf)
  (try simp only [Nat.zero_add])
  repeat ((first | refine V.s1 ?_ | ((try ((with_reducible refine .ext ?_); (conv => whnf); (try simp only [Nat.zero_add]))); (with_reducible refine call_intro (r := ?_) ?_ ?_); rotate_left; (focus (first | exact (sy))); (conv => whnf))); (try simp only [Nat.zero_add]))
  refine Cnd.split (CondB.mk (fun hq3 => ?_) (fun hq3 => ?_))
  · (conv => whnf)
    (try simp only [Nat.zero_add])
    repeat ((first | refine V.s1 ?_); (try simp only [Nat.zero_add]))
    exact Fin.of rfl
  · exfalso
    simp at hq3
    omega
theorem rfrom_ok (a0 b0 a1 b1 a2 b2 c0 d0 u0 v0 z0 w0 p0 q0 p1 q1 r0 s0 r1 s1 : List UInt8) (gx gy gl gz : Int) (h : ¬ gx < 0 ∧ ¬ gy < 0 ∧ ¬ gl < 0) (hz : ¬ gz < 0) (hy : ¬ gy = 0) (fr : Called Tryz.prog 46 [.slf 2 3 (fun j => List.take 2 (List.drop (j * 2) [.str a0, .str b0, .str a1, .str b1, .str a2, .str b2]))] (.int .i64 0))
    (sx : Called Tryz.prog 47 [.agg [.str a0, .str b0]] (.int .i64 gx)) (sy : Called Tryz.prog 47 [.agg [.str a1, .str b1]] (.int .i64 gy)) (sl : Called Tryz.prog 47 [.agg [.str a2, .str b2]] (.int .i64 gl))
    (o : Called Tryz.prog 42 [.int .i64 1, .int .i64 1] (.agg [.str c0, .str d0])) (ad : Called Tryz.prog 93 [.agg [.str a0, .str b0], .agg [.str a1, .str b1]] (.tup [.agg [.str u0, .str v0], .int .i64 0]))
    (sb : Called Tryz.prog 91 [.agg [.str c0, .str d0], .agg [.str u0, .str v0]] (.tup [.agg [.str z0, .str w0], .int .i64 0])) (sz : Called Tryz.prog 47 [.agg [.str z0, .str w0]] (.int .i64 gz))
    (m1 : Called Tryz.prog 95 [.agg [.str a0, .str b0], .agg [.str a2, .str b2]] (.tup [.agg [.str p0, .str q0], .int .i64 0])) (d1 : Called Tryz.prog 94 [.agg [.str p0, .str q0], .agg [.str a1, .str b1]] (.tup [.agg [.str r0, .str s0], .int .i64 0]))
    (m2 : Called Tryz.prog 95 [.agg [.str z0, .str w0], .agg [.str a2, .str b2]] (.tup [.agg [.str p1, .str q1], .int .i64 0])) (d2 : Called Tryz.prog 94 [.agg [.str p1, .str q1], .agg [.str a1, .str b1]] (.tup [.agg [.str r1, .str s1], .int .i64 0])) :
    Called Tryz.prog 26 [.agg [.str a0, .str b0], .agg [.str a1, .str b1], .agg [.str a2, .str b2]] (.tup [.agg [.str r0, .str s0, .str a2, .str b2, .str r1, .str s1], .int .i64 0]) := by
  refine called_of_run tbOk 6 ⟨Tryz.func26, rfl, rfl, Nat.le_of_ble_eq_true rfl⟩ ?_
  (conv => whnf)
  (conv => whnf)
  (try simp only [Nat.zero_add])
  repeat ((first | refine V.s1 ?_ | ((try ((with_reducible refine .ext ?_); (conv => whnf); (try simp only [Nat.zero_add]))); (with_reducible refine call_intro (r := ?_) ?_ ?_); rotate_left; (focus (first | exact (fr) | exact (sx) | exact (sy) | exact (sl))); (conv => whnf))); (try simp only [Nat.zero_add]))
  refine Cnd.split (CondB.mk (fun hq => ?_) (fun hq => ?_))
  · exfalso
    simp at hq
    omega
  (conv => whnf)
  (try simp only [Nat.zero_add])
  repeat ((first | refine V.s1 ?_); (try simp only [Nat.zero_add]))
  refine ⟨(.take 1 (.take 2 (.ev (.cons 0 [2, 1] (.ev (.cons 3 [] (.ev (.cons 4 [] (.ev (.cons 5 [] (.ev (.cons 6 [] (.done) (.nil))) (.nil))) (.cons 5 [] (.ev (.cons 4 [] (.ev (.cons 6 [] (.done) (.nil))) (.nil))) (.nil)))) (.cons 5 [2, 1] (.ev (.cons 3 [] (.ev (.cons 4 [] (.ev (.cons 6 [] (.done) (.nil))) (.nil))) (.nil))) (.nil)))) (.cons 5 [2, 1] (.ev (.cons 0 [2, 1] (.ev (.cons 3 [] (.ev (.cons 4 [] (.ev (.cons 6 [] (.done) (.nil))) (.nil))) (.nil))) (.nil))) (.nil)))))), [], ⟨by kernel_rfl, by kernel_rfl, by kernel_rfl, by kernel_rfl⟩, ?_⟩
  refine drw_meet [(10, .box 10 0)] [(10, .box [.str z0, .str w0]), (9, .box [.int .i64 0])] ?_ ?_
  · (conv => whnf); (try simp only [Nat.zero_add])
    repeat' (first | exact V.wk | ((first | refine V.s1 ?_ | ((with_reducible refine recheck_and ?_ ?_); (focus ((conv => whnf); (try simp only [Nat.zero_add]); (repeat (refine V.s1 ?_; (try simp only [Nat.zero_add]))); exact ⟨rfl⟩)); (conv => whnf)) | ((try ((with_reducible refine .ext ?_); (conv => whnf); (try simp only [Nat.zero_add]))); (with_reducible refine call_intro (r := ?_) ?_ ?_); rotate_left; (focus (first | exact (o) | exact (ad) | exact (sb))); (conv => whnf)) | ((with_reducible refine .inl ?_); (conv => whnf); (first | refine ⟨0, _, _, ⟨Tryz.func58, rfl, rfl, Nat.le_of_ble_eq_true rfl⟩, ?_⟩ | refine ⟨0, _, _, ⟨Tryz.func57, rfl, rfl, Nat.le_of_ble_eq_true rfl⟩, ?_⟩ | refine ⟨0, _, _, ⟨Tryz.func92, rfl, rfl, Nat.le_of_ble_eq_true rfl⟩, ?_⟩); (conv => whnf))); (try simp only [Nat.zero_add])) | (refine And.intro ?_ ?_ <;> (conv => whnf); (try simp only [Nat.zero_add])))
  (conv => whnf)
  (try simp only [Nat.zero_add])
  repeat ((first | refine V.s1 ?_ | ((try ((with_reducible refine .ext ?_); (conv => whnf); (try simp only [Nat.zero_add]))); (with_reducible refine call_intro (r := ?_) ?_ ?_); rotate_left; (focus (first | exact (sz))); (conv => whnf))); (try simp only [Nat.zero_add]))
  refine Cnd.split (CondB.mk (fun hq2 => ?_) (fun hq2 => ?_))
  · exfalso
    simp at hq2
    omega
  (conv => whnf)
  (try simp only [Nat.zero_add])
  repeat ((first | refine V.s1 ?_ | ((try ((with_reducible refine .ext ?_); (conv => whnf); (try simp only [Nat.zero_add]))); (with_reducible refine call_intro (r := ?_) ?_ ?_); rotate_left; (focus (first | exact (sy))); (conv => whnf))); (try simp only [Nat.zero_add]))
  refine Cnd.split (CondB.mk (fun hq3 => ?_) (fun hq3 => ?_))
  · exfalso
    simp at hq3
    omega
  (conv => whnf)
  (try simp only [Nat.zero_add])
  repeat ((first | refine V.s1 ?_); (try simp only [Nat.zero_add]))
  refine ⟨(.take 0 (.take 1 (.take 3 (.take 5 (.take 6 (.take 7 (.take 9 (.ev (.cons 2 [9, 7, 6, 5, 3] (.ev (.cons 4 [9, 7, 6, 5] (.ev (.cons 8 [9, 5] (.ev (.cons 10 [5] (.take 11 (.ev (.cons 12 [11, 5] (.ev (.cons 13 [] (.done) (.nil))) (.nil)))) (.cons 12 [9, 5] (.ev (.cons 10 [5] (.take 11 (.ev (.cons 13 [] (.done) (.nil)))) (.nil))) (.nil)))) (.cons 12 [9, 7, 6, 5] (.ev (.cons 8 [9, 5] (.ev (.cons 10 [5] (.take 11 (.ev (.cons 13 [] (.done) (.nil)))) (.nil))) (.nil))) (.nil)))) (.cons 12 [9, 7, 6, 5, 3] (.ev (.cons 4 [9, 7, 6, 5] (.ev (.cons 8 [9, 5] (.ev (.cons 10 [5] (.take 11 (.ev (.cons 13 [] (.done) (.nil)))) (.nil))) (.nil))) (.nil))) (.nil)))) (.cons 12 [9, 7, 6, 5, 3, 1, 0] (.ev (.cons 2 [9, 7, 6, 5, 3] (.ev (.cons 4 [9, 7, 6, 5] (.ev (.cons 8 [9, 5] (.ev (.cons 10 [5] (.take 11 (.ev (.cons 13 [] (.done) (.nil)))) (.nil))) (.nil))) (.nil))) (.nil))) (.nil))))))))))), [], ⟨by kernel_rfl, by kernel_rfl, by kernel_rfl, by kernel_rfl⟩, ?_⟩
  refine drw_meet [(11, .box 11 0)] [(11, .box [.str r0, .str s0, .str a2, .str b2, .str r1, .str s1]), (9, .box [.int .i64 0])] ?_ ?_
  · (conv => whnf); (try simp only [Nat.zero_add])
    repeat' (first | exact V.wk | ((first | refine V.s1 ?_ | ((with_reducible refine recheck_and ?_ ?_); (focus ((conv => whnf); (try simp only [Nat.zero_add]); (repeat (refine V.s1 ?_; (try simp only [Nat.zero_add]))); exact ⟨rfl⟩)); (conv => whnf)) | ((try ((with_reducible refine .ext ?_); (conv => whnf); (try simp only [Nat.zero_add]))); (with_reducible refine call_intro (r := ?_) ?_ ?_); rotate_left; (focus (first | exact (m1) | exact (d1) | exact (m2) | exact (d2))); (conv => whnf)) | ((with_reducible refine .inl ?_); (conv => whnf); (first | refine ⟨0, _, _, ⟨Tryz.func60, rfl, rfl, Nat.le_of_ble_eq_true rfl⟩, ?_⟩ | refine ⟨0, _, _, ⟨Tryz.func59, rfl, rfl, Nat.le_of_ble_eq_true rfl⟩, ?_⟩ | refine ⟨0, _, _, ⟨Tryz.func92, rfl, rfl, Nat.le_of_ble_eq_true rfl⟩, ?_⟩); (conv => whnf))); (try simp only [Nat.zero_add])) | (refine And.intro ?_ ?_ <;> (conv => whnf); (try simp only [Nat.zero_add])))
  (conv => whnf)
  (try simp only [Nat.zero_add])
  repeat ((first | refine V.s1 ?_); (try simp only [Nat.zero_add]))
  exact Fin.of rfl
end Go.Proofs.YtfilfmadapjajaaGreatDoor
end
section
namespace Go.Proofs.YtfilfmadapjajaaGreatDoor
open Go Go.V Go.Nb
theorem rfrom_c {n : Nat} {x y l : Tx} (bx : BdX n x) (b_y : BdX n y) (bl : BdX n l) (h0 : 0 < n ∧ n ≤ 100) : Called Tryz.prog 26 [txD x, txD y, txD l] (fromX x y l) := by
  have f1 := rfracs3 x.1 x.2 y.1 y.2 l.1 l.2 _ _ _ (rcheck_c _ _ bx.1.1 bx.1.2) (rcheck_c _ _ b_y.1.1 b_y.1.2) (rcheck_c _ _ bl.1.1 bl.1.2)
  rw [fst3_ok] at f1
  have hc : (okP x.1 x.2 && okP y.1 y.2 && okP l.1 l.2) = (okX x && okX y && okX l) := rfl
  rw [hc] at f1
  unfold fromX
  by_cases h : (okX x && okX y && okX l) = true
  · rw [if_pos h] at f1 ⊢
    simp only [Bool.and_eq_true] at h
    obtain ⟨⟨hx, hy⟩, hl⟩ := h
    have qx := bx.2 hx
    have qy := b_y.2 hy
    have ql := bl.2 hl
    have e0 := txD_q hx
    have e1 := txD_q hy
    have e2 := txD_q hl
    have s0 := (sgn_x hx bx ⟨h0.1, by omega⟩).2
    have s1 := (sgn_x hy b_y ⟨h0.1, by omega⟩).2
    have s2 := (sgn_x hl bl ⟨h0.1, by omega⟩).2
    have r1 := r23of (n := 1) (m := 1) (by omega) (by omega)
    have ad := zradd qx qy h0.1 h0.1 (by omega)
    have fz := fq_one.sub (qx.add qy)
    have sb := zrsub fq_one (qx.add qy) (by omega) (by omega) (by omega)
    have sz := rsign_t fz ⟨by omega, by omega⟩
    have m1 := zrmul qx ql h0.1 h0.1 (by omega)
    have m2 := zrmul fz ql (by omega) h0.1 (by omega)
    have ez : 1 - (qX x + qX y) = 1 - qX x - qX y := by grind
    rw [one_divInt] at r1
    rw [ordQ_zero] at sz
    have nz : (1 - (qX x + qX y)).num < 0 ↔ 1 < qX x + qX y := by
      constructor
      · intro g
        have g2 : ¬ 0 ≤ 1 - (qX x + qX y) := fun g3 => by
          have := Rat.num_nonneg.2 g3
          omega
        exact Rat.not_le.1 fun g3 => g2 (by grind)
      · intro g
        have g2 : ¬ 0 ≤ 1 - (qX x + qX y) := fun g3 => by
          exact absurd g (Rat.not_lt.2 (by grind))
        have : ¬ 0 ≤ (1 - (qX x + qX y)).num := fun g3 => g2 (Rat.num_nonneg.1 g3)
        omega
    have gs : (1 - (qX x + qX y)).num.sign < 0 ↔ 1 < qX x + qX y := by rw [sgn_lt]; exact nz
    by_cases g : (qX x).num < 0 ∨ (qX y).num < 0 ∨ (qX l).num < 0
    · rw [if_pos (by
        rcases g with g | g | g
        · exact .inl g
        · exact .inr (.inl g)
        · exact .inr (.inr (.inl g)))]
      exact rfrom_neg _ _ _ _ _ _ _ _ _ (by simp only [sgn_lt]; exact g) f1 s0 s1 s2
    · have gn : ¬ (qX x).num.sign < 0 ∧ ¬ (qX y).num.sign < 0 ∧ ¬ (qX l).num.sign < 0 := by simp only [sgn_lt]; omega
      by_cases g3 : 1 < qX x + qX y
      · rw [if_pos (.inr (.inr (.inr g3)))]
        have k := gs.2 g3
        rw [← e0, ← e1] at ad
        unfold txD frT at ad
        unfold frT at r1 sb sz
        exact rfrom_big _ _ _ _ _ _ _ _ _ _ _ _ _ _ _ _ gn k f1 s0 s1 s2 r1 ad sb sz
      · have k : ¬ (1 - (qX x + qX y)).num.sign < 0 := fun h => g3 (gs.1 h)
        rw [if_neg (fun hh => by
          rcases hh with hh | hh | hh | hh
          · exact g (.inl hh)
          · exact g (.inr (.inl hh))
          · exact g (.inr (.inr hh))
          · exact g3 hh)]
        rw [← e0, ← e1] at ad
        by_cases g4 : (qX y).num = 0
        · rw [if_pos g4]
          unfold txD frT at ad
          unfold frT at r1 sb sz
          exact rfrom_zero _ _ _ _ _ _ _ _ _ _ _ _ _ _ _ _ gn k (by rw [sgn_eq]; exact g4) f1 s0 s1 s2 r1 ad sb sz
        · rw [if_neg g4]
          have d1 := zrdiv (qx.mul ql) qy g4 (by omega) h0.1 (by omega)
          have d2 := zrdiv (fz.mul ql) qy g4 (by omega) h0.1 (by omega)
          rw [← e0, ← e2] at m1
          rw [← e2] at m2
          rw [← e1] at d1 d2
          unfold txD frT at ad m1 m2 d1 d2
          unfold frT at r1 sb sz
          have c := rfrom_ok _ _ _ _ _ _ _ _ _ _ _ _ _ _ _ _ _ _ _ _ _ _ _ _ gn k (by rw [sgn_eq]; exact g4) f1 s0 s1 s2 r1 ad sb sz m1 d1 m2 d2
          have el := qX_text hl
          unfold colX triE
          dsimp only
          rw [el, ← ez]
          exact c
  · rw [if_neg h] at f1 ⊢
    exact rfrom_no _ _ _ _ _ _ _ (by omega) f1
end Go.Proofs.YtfilfmadapjajaaGreatDoor
end
section
namespace Go.Proofs.YtfilfmadapjajaaGreatDoor
open Go Go.V Go.Nb
theorem zrdiv0 {a : Nat} {p : Rat} (h : Fq a p) (ha : 0 < a ∧ a ≤ 600) : Called Tryz.prog 94 [frT p, frT 0] (.tup [.agg [.str [], .str []], .int .i64 7]) := by
  obtain ⟨hp, e1⟩ := okP_dec (h.ok ha.1 ha.2)
  have g := (okP_dec ((show Fq 1 0 from ⟨by decide, by decide⟩).ok (by omega) (by omega))).1
  have r1 := right02_c _ _ (okP_len hp).1 (okP_len hp).2
  have r2 := right02_c _ _ (okP_len g).1 (okP_len g).2
  rw [hp] at r1
  rw [g] at r2
  have hz : decide (decZ (0 : Rat).num = [48]) = true := by rw [decZ_zero]; decide
  unfold frT
  generalize decZ (0 : Rat).num = sq at *
  refine called_of_run tbOk 6 ⟨Tryz.func94, rfl, rfl, Nat.le_of_ble_eq_true rfl⟩ ?_
  (conv => whnf)
  refine V.st ?_
  repeat ((try ((with_reducible refine .ext ?_); (conv => whnf))); (with_reducible refine call_intro (r := ?_) ?_ ?_); rotate_left; (focus (first | exact (r1) | exact (r2))); (conv => whnf); refine V.st ?_)
  refine Cnd.split (CondB.mk (fun hq0 => ?_) (fun hq0 => ?_))
  · (conv => whnf)
    refine V.st ?_
    exact Fin.of rfl
  · exfalso
    simp at hq0 hz
    exact hq0 hz
theorem rto_no (a0 a1 b0 b1 c0 c1 : List UInt8) (e : Int) (he : e ≠ 0) (ck : Called Tryz.prog 16 [.agg [.str a0, .str a1, .str b0, .str b1, .str c0, .str c1]] (.int .i64 e)) : Called Tryz.prog 28 [.agg [.str a0, .str a1, .str b0, .str b1, .str c0, .str c1]] (.tup [.agg [.str [], .str []], .agg [.str [], .str []], .agg [.str [], .str []], .int .i64 e]) := by
  refine called_of_run tbOk 6 ⟨Tryz.func28, rfl, rfl, Nat.le_of_ble_eq_true rfl⟩ ?_
  (conv => whnf)
  (conv => whnf)
  (try simp only [Nat.zero_add])
  repeat ((first | refine V.s1 ?_ | ((try ((with_reducible refine .ext ?_); (conv => whnf); (try simp only [Nat.zero_add]))); (with_reducible refine call_intro (r := ?_) ?_ ?_); rotate_left; (focus (first | exact (ck))); (conv => whnf))); (try simp only [Nat.zero_add]))
  refine Cnd.split (CondB.mk (fun hq => ?_) (fun hq => ?_))
  · (conv => whnf)
    (try simp only [Nat.zero_add])
    repeat ((first | refine V.s1 ?_); (try simp only [Nat.zero_add]))
    refine ⟨(.take 0 (.take 1 (.take 2 (.take 3 (.ev (.cons 4 [3, 2, 1] (.ev (.cons 5 [3, 2] (.ev (.cons 6 [3] (.take 7 (.done)) (.nil))) (.nil))) (.nil))))))), [], ⟨by kernel_rfl, by kernel_rfl, by kernel_rfl, by kernel_rfl⟩, ?_⟩
    refine drw_meet [(5, .int .i64 e)] [(2, .box [.str [], .str []]), (3, .box [.str [], .str []]), (4, .box [.str [], .str []])] ?_ ?_
    · (conv => whnf); (try simp only [Nat.zero_add])
      repeat' (first | exact V.wk | ((first | refine V.s1 ?_ | ((with_reducible refine recheck_and ?_ ?_); (focus ((conv => whnf); (try simp only [Nat.zero_add]); (repeat (refine V.s1 ?_; (try simp only [Nat.zero_add]))); exact ⟨rfl⟩)); (conv => whnf))); (try simp only [Nat.zero_add])) | (refine And.intro ?_ ?_ <;> (conv => whnf); (try simp only [Nat.zero_add])))
    (conv => whnf)
    (try simp only [Nat.zero_add])
    repeat ((first | refine V.s1 ?_); (try simp only [Nat.zero_add]))
    exact Fin.of rfl
  · exfalso
    simp at hq
    exact he hq
theorem zZ41_0 : type_of% @Nat.zero_add ∧ type_of% @tn0 ∧ type_of% @tn1 ∧ type_of% @tn2 := ⟨@Nat.zero_add, @tn0, @tn1, @tn2⟩
theorem rto_zero (a0 a1 b0 b1 c0 c1 p0 p1 q0 q1 z0 z1 : List UInt8) (ck : Called Tryz.prog 16 [.agg [.str a0, .str a1, .str b0, .str b1, .str c0, .str c1]] (.int .i64 0)) (ad1 : Called Tryz.prog 93 [.agg [.str a0, .str a1], .agg [.str b0, .str b1]] (.tup [.agg [.str p0, .str p1], .int .i64 0])) (ad2 : Called Tryz.prog 93 [.agg [.str p0, .str p1], .agg [.str c0, .str c1]] (.tup [.agg [.str q0, .str q1], .int .i64 0])) (sq : Called Tryz.prog 47 [.agg [.str q0, .str q1]] (.int .i64 0))
    (dx : Called Tryz.prog 94 [.agg [.str a0, .str a1], .agg [.str q0, .str q1]] (.tup [.agg [.str [], .str []], .int .i64 7])) (dy : Called Tryz.prog 94 [.agg [.str b0, .str b1], .agg [.str q0, .str q1]] (.tup [.agg [.str [], .str []], .int .i64 7])) (o : Called Tryz.prog 42 [.int .i64 0, .int .i64 1] (.agg [.str z0, .str z1])) :
    Called Tryz.prog 28 [.agg [.str a0, .str a1, .str b0, .str b1, .str c0, .str c1]] (.tup [.agg [.str [], .str []], .agg [.str [], .str []], .agg [.str [], .str []], .int .i64 7]) := by
  refine called_of_run tbOk 6 ⟨Tryz.func28, rfl, rfl, Nat.le_of_ble_eq_true rfl⟩ ?_
  (conv => whnf)
  (conv => whnf)
  (try simp only [Nat.zero_add])
  repeat ((first | refine V.s1 ?_ | ((try ((with_reducible refine .ext ?_); (conv => whnf); (try simp only [Nat.zero_add]))); (with_reducible refine call_intro (r := ?_) ?_ ?_); rotate_left; (focus (first | exact (ck))); (conv => whnf))); (try simp only [Nat.zero_add]))
  refine ⟨(.take 0 (.take 1 (.take 2 (.take 3 (.take 5 (.take 6 (.ev (.cons 4 [6, 5] (.ev (.cons 7 [] (.ev (.cons 8 [] (.ev (.cons 9 [] (.done) (.nil))) (.nil))) (.cons 8 [6, 5] (.ev (.cons 7 [] (.ev (.cons 9 [] (.done) (.nil))) (.nil))) (.nil)))) (.cons 8 [6, 5, 3, 2, 1, 0] (.ev (.cons 4 [6, 5] (.ev (.cons 7 [] (.ev (.cons 9 [] (.done) (.nil))) (.nil))) (.nil))) (.nil)))))))))), [], ⟨by kernel_rfl, by kernel_rfl, by kernel_rfl, by kernel_rfl⟩, ?_⟩
  refine drw_meet [(9, .box 9 0)] [(9, .box [.str q0, .str q1]), (8, .box [.int .i64 0])] ?_ ?_
  · (conv => whnf); (try simp only [zZ41_0])
    repeat' (first | exact V.wk | ((first | refine V.s1 ?_ | ((with_reducible refine recheck_and ?_ ?_); (focus ((conv => whnf); (try simp only [zZ41_0]); (repeat (refine V.s1 ?_; (try simp only [zZ41_0]))); exact ⟨rfl⟩)); (conv => whnf)) | ((try ((with_reducible refine .ext ?_); (conv => whnf); (try simp only [zZ41_0]))); (with_reducible refine call_intro (r := ?_) ?_ ?_); rotate_left; (focus (first | exact (ad1) | exact (ad2))); (conv => whnf)) | ((with_reducible refine .inl ?_); (conv => whnf); (first | refine ⟨0, _, _, ⟨Tryz.func58, rfl, rfl, Nat.le_of_ble_eq_true rfl⟩, ?_⟩ | refine ⟨0, _, _, ⟨Tryz.func92, rfl, rfl, Nat.le_of_ble_eq_true rfl⟩, ?_⟩); (conv => whnf))); (try simp only [zZ41_0])) | (refine And.intro ?_ ?_ <;> (conv => whnf); (try simp only [zZ41_0])))
  (conv => whnf)
  (try simp only [Nat.zero_add])
  repeat ((first | refine V.s1 ?_ | ((try ((with_reducible refine .ext ?_); (conv => whnf); (try simp only [Nat.zero_add]))); (with_reducible refine call_intro (r := ?_) ?_ ?_); rotate_left; (focus (first | exact (sq))); (conv => whnf))); (try simp only [Nat.zero_add]))
  refine ⟨(.take 0 (.take 1 (.take 2 (.take 4 (.take 5 (.take 6 (.ev (.cons 3 [6, 5, 4] (.ev (.cons 7 [] (.ev (.cons 8 [] (.ev (.cons 9 [] (.ev (.cons 10 [] (.ev (.cons 11 [] (.done) (.nil))) (.nil))) (.nil))) (.cons 9 [] (.ev (.cons 8 [] (.ev (.cons 10 [] (.ev (.cons 11 [] (.done) (.nil))) (.nil))) (.nil))) (.nil)))) (.cons 8 [6, 5, 4] (.ev (.cons 7 [] (.ev (.cons 9 [] (.ev (.cons 10 [] (.ev (.cons 11 [] (.done) (.nil))) (.nil))) (.nil))) (.cons 9 [6, 5, 4] (.ev (.cons 7 [] (.ev (.cons 10 [] (.ev (.cons 11 [] (.done) (.nil))) (.nil))) (.nil))) (.nil)))) (.cons 9 [6, 5, 4] (.ev (.cons 7 [] (.ev (.cons 8 [] (.ev (.cons 10 [] (.ev (.cons 11 [] (.done) (.nil))) (.nil))) (.nil))) (.cons 8 [6, 5, 4] (.ev (.cons 7 [] (.ev (.cons 10 [] (.ev (.cons 11 [] (.done) (.nil))) (.nil))) (.nil))) (.nil)))) (.nil))))) (.cons 8 [6, 5, 4, 2, 1, 0] (.ev (.cons 3 [6, 5, 4] (.ev (.cons 7 [] (.ev (.cons 9 [] (.ev (.cons 10 [] (.ev (.cons 11 [] (.done) (.nil))) (.nil))) (.nil))) (.cons 9 [6, 5, 4] (.ev (.cons 7 [] (.ev (.cons 10 [] (.ev (.cons 11 [] (.done) (.nil))) (.nil))) (.nil))) (.nil)))) (.cons 9 [6, 5, 4, 2, 1, 0] (.ev (.cons 3 [6, 5, 4] (.ev (.cons 7 [] (.ev (.cons 10 [] (.ev (.cons 11 [] (.done) (.nil))) (.nil))) (.nil))) (.nil))) (.nil)))) (.cons 9 [6, 5, 4, 2, 1, 0] (.ev (.cons 3 [6, 5, 4] (.ev (.cons 7 [] (.ev (.cons 8 [] (.ev (.cons 10 [] (.ev (.cons 11 [] (.done) (.nil))) (.nil))) (.nil))) (.cons 8 [6, 5, 4] (.ev (.cons 7 [] (.ev (.cons 10 [] (.ev (.cons 11 [] (.done) (.nil))) (.nil))) (.nil))) (.nil)))) (.cons 8 [6, 5, 4, 2, 1, 0] (.ev (.cons 3 [6, 5, 4] (.ev (.cons 7 [] (.ev (.cons 10 [] (.ev (.cons 11 [] (.done) (.nil))) (.nil))) (.nil))) (.nil))) (.nil)))) (.nil))))))))))), [], ⟨by kernel_rfl, by kernel_rfl, by kernel_rfl, by kernel_rfl⟩, ?_⟩
  refine drw_meet [(10, .box 10 0), (11, .box 11 0)] [(10, .box [.str z0, .str z1]), (11, .box [.str z0, .str z1]), (8, .box [.int .i64 7])] ?_ ?_
  · (conv => whnf); (try simp only [zZ41_0])
    repeat' (first | exact V.wk | ((first | refine V.s1 ?_ | ((with_reducible refine recheck_and ?_ ?_); (focus ((conv => whnf); (try simp only [zZ41_0]); (repeat (refine V.s1 ?_; (try simp only [zZ41_0]))); exact ⟨rfl⟩)); (conv => whnf)) | ((try ((with_reducible refine .ext ?_); (conv => whnf); (try simp only [zZ41_0]))); (with_reducible refine call_intro (r := ?_) ?_ ?_); rotate_left; (focus (first | exact (dx) | exact (dy) | exact (o))); (conv => whnf)) | ((with_reducible refine .inl ?_); (conv => whnf); (first | refine ⟨0, _, _, ⟨Tryz.func59, rfl, rfl, Nat.le_of_ble_eq_true rfl⟩, ?_⟩ | refine ⟨0, _, _, ⟨Tryz.func92, rfl, rfl, Nat.le_of_ble_eq_true rfl⟩, ?_⟩); (conv => whnf))); (try simp only [zZ41_0])) | (refine And.intro ?_ ?_ <;> (conv => whnf); (try simp only [zZ41_0])))
  (conv => whnf)
  (try simp only [Nat.zero_add])
  repeat ((first | refine V.s1 ?_); (try simp only [Nat.zero_add]))
  refine ⟨(.take 0 (.take 1 (.take 2 (.take 3 (.take 4 (.ev (.cons 5 [4, 3, 2, 1] (.ev (.cons 6 [4, 3, 2] (.ev (.cons 7 [4, 3] (.take 8 (.done)) (.nil))) (.nil))) (.nil)))))))), [], ⟨by kernel_rfl, by kernel_rfl, by kernel_rfl, by kernel_rfl⟩, ?_⟩
  refine drw_meet [(5, .int .i64 7)] [(2, .box [.str [], .str []]), (3, .box [.str [], .str []]), (4, .box [.str [], .str []])] ?_ ?_
  · (conv => whnf); (try simp only [Nat.zero_add])
    repeat' (first | exact V.wk | ((first | refine V.s1 ?_ | ((with_reducible refine recheck_and ?_ ?_); (focus ((conv => whnf); (try simp only [Nat.zero_add]); (repeat (refine V.s1 ?_; (try simp only [Nat.zero_add]))); exact ⟨rfl⟩)); (conv => whnf))); (try simp only [Nat.zero_add])) | (refine And.intro ?_ ?_ <;> (conv => whnf); (try simp only [Nat.zero_add])))
  (conv => whnf)
  (try simp only [Nat.zero_add])
  repeat ((first | refine V.s1 ?_); (try simp only [Nat.zero_add]))
  exact Fin.of rfl
theorem rto_ok (a0 a1 b0 b1 c0 c1 p0 p1 q0 q1 x0 x1 y0 y1 : List UInt8) (g : Int) (hg : ¬ g = 0) (ck : Called Tryz.prog 16 [.agg [.str a0, .str a1, .str b0, .str b1, .str c0, .str c1]] (.int .i64 0)) (ad1 : Called Tryz.prog 93 [.agg [.str a0, .str a1], .agg [.str b0, .str b1]] (.tup [.agg [.str p0, .str p1], .int .i64 0])) (ad2 : Called Tryz.prog 93 [.agg [.str p0, .str p1], .agg [.str c0, .str c1]] (.tup [.agg [.str q0, .str q1], .int .i64 0])) (sq : Called Tryz.prog 47 [.agg [.str q0, .str q1]] (.int .i64 g))
    (dx : Called Tryz.prog 94 [.agg [.str a0, .str a1], .agg [.str q0, .str q1]] (.tup [.agg [.str x0, .str x1], .int .i64 0])) (dy : Called Tryz.prog 94 [.agg [.str b0, .str b1], .agg [.str q0, .str q1]] (.tup [.agg [.str y0, .str y1], .int .i64 0])) :
    Called Tryz.prog 28 [.agg [.str a0, .str a1, .str b0, .str b1, .str c0, .str c1]] (.tup [.agg [.str x0, .str x1], .agg [.str y0, .str y1], .agg [.str b0, .str b1], .int .i64 0]) := by
  refine called_of_run tbOk 6 ⟨Tryz.func28, rfl, rfl, Nat.le_of_ble_eq_true rfl⟩ ?_
  (conv => whnf)
  (conv => whnf)
  (try simp only [Nat.zero_add])
  repeat ((first | refine V.s1 ?_ | ((try ((with_reducible refine .ext ?_); (conv => whnf); (try simp only [Nat.zero_add]))); (with_reducible refine call_intro (r := ?_) ?_ ?_); rotate_left; (focus (first | exact (ck))); (conv => whnf))); (try simp only [Nat.zero_add]))
  refine ⟨(.take 0 (.take 1 (.take 2 (.take 3 (.take 5 (.take 6 (.ev (.cons 4 [6, 5] (.ev (.cons 7 [] (.ev (.cons 8 [] (.ev (.cons 9 [] (.done) (.nil))) (.nil))) (.cons 8 [6, 5] (.ev (.cons 7 [] (.ev (.cons 9 [] (.done) (.nil))) (.nil))) (.nil)))) (.cons 8 [6, 5, 3, 2, 1, 0] (.ev (.cons 4 [6, 5] (.ev (.cons 7 [] (.ev (.cons 9 [] (.done) (.nil))) (.nil))) (.nil))) (.nil)))))))))), [], ⟨by kernel_rfl, by kernel_rfl, by kernel_rfl, by kernel_rfl⟩, ?_⟩
  refine drw_meet [(9, .box 9 0)] [(9, .box [.str q0, .str q1]), (8, .box [.int .i64 0])] ?_ ?_
  · (conv => whnf); (try simp only [zZ41_0])
    repeat' (first | exact V.wk | ((first | refine V.s1 ?_ | ((with_reducible refine recheck_and ?_ ?_); (focus ((conv => whnf); (try simp only [zZ41_0]); (repeat (refine V.s1 ?_; (try simp only [zZ41_0]))); exact ⟨rfl⟩)); (conv => whnf)) | ((try ((with_reducible refine .ext ?_); (conv => whnf); (try simp only [zZ41_0]))); (with_reducible refine call_intro (r := ?_) ?_ ?_); rotate_left; (focus (first | exact (ad1) | exact (ad2))); (conv => whnf)) | ((with_reducible refine .inl ?_); (conv => whnf); (first | refine ⟨0, _, _, ⟨Tryz.func58, rfl, rfl, Nat.le_of_ble_eq_true rfl⟩, ?_⟩ | refine ⟨0, _, _, ⟨Tryz.func92, rfl, rfl, Nat.le_of_ble_eq_true rfl⟩, ?_⟩); (conv => whnf))); (try simp only [zZ41_0])) | (refine And.intro ?_ ?_ <;> (conv => whnf); (try simp only [zZ41_0])))
  (conv => whnf)
  (try simp only [Nat.zero_add])
  repeat ((first | refine V.s1 ?_ | ((try ((with_reducible refine .ext ?_); (conv => whnf); (try simp only [Nat.zero_add]))); (with_reducible refine call_intro (r := ?_) ?_ ?_); rotate_left; (focus (first | exact (sq))); (conv => whnf))); (try simp only [Nat.zero_add]))
  refine Cnd.split (CondB.mk (fun hq => ?_) (fun hq => ?_))
  · exfalso
    simp at hq
    exact hg hq
  · (conv => whnf)
    (try simp only [Nat.zero_add])
    repeat ((first | refine V.s1 ?_); (try simp only [Nat.zero_add]))
    refine ⟨(.take 0 (.take 1 (.take 2 (.take 4 (.take 5 (.take 6 (.ev (.cons 3 [6, 5, 4] (.ev (.cons 7 [] (.ev (.cons 8 [] (.ev (.cons 9 [] (.ev (.cons 10 [] (.ev (.cons 11 [] (.done) (.nil))) (.nil))) (.nil))) (.cons 9 [] (.ev (.cons 8 [] (.ev (.cons 10 [] (.ev (.cons 11 [] (.done) (.nil))) (.nil))) (.nil))) (.nil)))) (.cons 8 [6, 5, 4] (.ev (.cons 7 [] (.ev (.cons 9 [] (.ev (.cons 10 [] (.ev (.cons 11 [] (.done) (.nil))) (.nil))) (.nil))) (.cons 9 [6, 5, 4] (.ev (.cons 7 [] (.ev (.cons 10 [] (.ev (.cons 11 [] (.done) (.nil))) (.nil))) (.nil))) (.nil)))) (.cons 9 [6, 5, 4] (.ev (.cons 7 [] (.ev (.cons 8 [] (.ev (.cons 10 [] (.ev (.cons 11 [] (.done) (.nil))) (.nil))) (.nil))) (.cons 8 [6, 5, 4] (.ev (.cons 7 [] (.ev (.cons 10 [] (.ev (.cons 11 [] (.done) (.nil))) (.nil))) (.nil))) (.nil)))) (.nil))))) (.cons 8 [6, 5, 4, 2, 1, 0] (.ev (.cons 3 [6, 5, 4] (.ev (.cons 7 [] (.ev (.cons 9 [] (.ev (.cons 10 [] (.ev (.cons 11 [] (.done) (.nil))) (.nil))) (.nil))) (.cons 9 [6, 5, 4] (.ev (.cons 7 [] (.ev (.cons 10 [] (.ev (.cons 11 [] (.done) (.nil))) (.nil))) (.nil))) (.nil)))) (.cons 9 [6, 5, 4, 2, 1, 0] (.ev (.cons 3 [6, 5, 4] (.ev (.cons 7 [] (.ev (.cons 10 [] (.ev (.cons 11 [] (.done) (.nil))) (.nil))) (.nil))) (.nil))) (.nil)))) (.cons 9 [6, 5, 4, 2, 1, 0] (.ev (.cons 3 [6, 5, 4] (.ev (.cons 7 [] (.ev (.cons 8 [] (.ev (.cons 10 [] (.ev (.cons 11 [] (.done) (.nil))) (.nil))) (.nil))) (.cons 8 [6, 5, 4] (.ev (.cons 7 [] (.ev (.cons 10 [] (.ev (.cons 11 [] (.done) (.nil))) (.nil))) (.nil))) (.nil)))) (.cons 8 [6, 5, 4, 2, 1, 0] (.ev (.cons 3 [6, 5, 4] (.ev (.cons 7 [] (.ev (.cons 10 [] (.ev (.cons 11 [] (.done) (.nil))) (.nil))) (.nil))) (.nil))) (.nil)))) (.nil))))))))))), [], ⟨by kernel_rfl, by kernel_rfl, by kernel_rfl, by kernel_rfl⟩, ?_⟩
    refine drw_meet [(10, .box 10 0), (11, .box 11 0)] [(10, .box [.str x0, .str x1]), (11, .box [.str y0, .str y1]), (8, .box [.int .i64 0])] ?_ ?_
    · (conv => whnf); (try simp only [zZ41_0])
      repeat' (first | exact V.wk | ((first | refine V.s1 ?_ | ((with_reducible refine recheck_and ?_ ?_); (focus ((conv => whnf); (try simp only [zZ41_0]); (repeat (refine V.s1 ?_; (try simp only [zZ41_0]))); exact ⟨rfl⟩)); (conv => whnf)) | ((try ((with_reducible refine .ext ?_); (conv => whnf); (try simp only [zZ41_0]))); (with_reducible refine call_intro (r := ?_) ?_ ?_); rotate_left; (focus (first | exact (dx) | exact (dy))); (conv => whnf)) | ((with_reducible refine .inl ?_); (conv => whnf); (first | refine ⟨0, _, _, ⟨Tryz.func59, rfl, rfl, Nat.le_of_ble_eq_true rfl⟩, ?_⟩ | refine ⟨0, _, _, ⟨Tryz.func92, rfl, rfl, Nat.le_of_ble_eq_true rfl⟩, ?_⟩); (conv => whnf))); (try simp only [zZ41_0])) | (refine And.intro ?_ ?_ <;> (conv => whnf); (try simp only [zZ41_0])))
    (conv => whnf)
    (try simp only [Nat.zero_add])
    repeat ((first | refine V.s1 ?_); (try simp only [Nat.zero_add]))
    refine ⟨(.take 0 (.take 1 (.take 2 (.take 3 (.ev (.cons 4 [3, 2, 1] (.ev (.cons 5 [3, 2] (.ev (.cons 6 [] (.take 7 (.done)) (.nil))) (.nil))) (.nil))))))), [], ⟨by kernel_rfl, by kernel_rfl, by kernel_rfl, by kernel_rfl⟩, ?_⟩
    refine drw_meet [(5, .int .i64 0)] [(2, .box [.str x0, .str x1]), (3, .box [.str y0, .str y1]), (4, .box [.str b0, .str b1])] ?_ ?_
    · (conv => whnf); (try simp only [zZ41_0])
      repeat' (first | exact V.wk | ((first | refine V.s1 ?_ | ((with_reducible refine recheck_and ?_ ?_); (focus ((conv => whnf); (try simp only [zZ41_0]); (repeat (refine V.s1 ?_; (try simp only [zZ41_0]))); exact ⟨rfl⟩)); (conv => whnf))); (try simp only [zZ41_0])) | (refine And.intro ?_ ?_ <;> (conv => whnf); (try simp only [zZ41_0])))
    (conv => whnf)
    (try simp only [Nat.zero_add])
    repeat ((first | refine V.s1 ?_); (try simp only [Nat.zero_add]))
    exact Fin.of rfl
end Go.Proofs.YtfilfmadapjajaaGreatDoor
end
section
namespace Go.Proofs.YtfilfmadapjajaaGreatDoor
open Go Go.V Go.Nb
theorem rto_c {n : Nat} {x y z : Tx} (bx : BdX n x) (b_y : BdX n y) (bz : BdX n z) (h0 : 0 < n ∧ n ≤ 100) : Called Tryz.prog 28 [triD x y z] (toX x y z) := by
  have ca := (chk_c bx b_y bz ⟨h0.1, by omega⟩).rc
  unfold toX
  by_cases ha : chk3 x y z = 0
  · rw [if_pos ha]
    have ca0 := ca
    rw [ha] at ca0
    obtain ⟨kx, ky, kz⟩ := chk3_ok ha
    have qx := bx.2 kx
    have qy := b_y.2 ky
    have qz := bz.2 kz
    have ex := txD_q kx
    have ey := txD_q ky
    have ez := txD_q kz
    have a1 := zradd qx qy h0.1 h0.1 (by omega)
    have a2 := zradd (qx.add qy) qz (by omega) h0.1 (by omega)
    have qs := (qx.add qy).add qz
    have sg := rsign_t qs ⟨by omega, by omega⟩
    rw [ordQ_zero] at sg
    rw [← ex, ← ey] at a1
    rw [← ez] at a2
    by_cases g0 : (qX x + qX y + qX z).num = 0
    · rw [if_pos g0]
      rw [g0, show Int.sign 0 = 0 from rfl] at sg
      have e0 : qX x + qX y + qX z = 0 := Rat.num_eq_zero.1 g0
      have dx := zrdiv0 qx ⟨h0.1, by omega⟩
      have dy := zrdiv0 qy ⟨h0.1, by omega⟩
      rw [← e0, ← ex] at dx
      rw [← e0, ← ey] at dy
      have o := r23of (n := 0) (m := 1) (by omega) (by omega)
      unfold txD frT at a1 a2 dx dy
      unfold frT at sg o
      exact rto_zero _ _ _ _ _ _ _ _ _ _ _ _ ca0 a1 a2 sg dx dy o
    · rw [if_neg g0]
      have dx := zrdiv qx qs g0 h0.1 (by omega) (by omega)
      have dy := zrdiv qy qs g0 h0.1 (by omega) (by omega)
      rw [← ex] at dx
      rw [← ey] at dy
      unfold txD frT at a1 a2 dx dy
      unfold frT at sg
      exact rto_ok _ _ _ _ _ _ _ _ _ _ _ _ _ _ _ (by rw [sgn_eq]; exact g0) ca0 a1 a2 sg dx dy
  · rw [if_neg ha]
    exact rto_no _ _ _ _ _ _ _ ha ca
end Go.Proofs.YtfilfmadapjajaaGreatDoor
end
section
namespace Go.Proofs.YtfilfmadapjajaaGreatDoor
open Go Go.V Go.Nb
theorem kk5 : ((5 : Nat) : Int) = 5 := rfl
theorem kk6 : ((6 : Nat) : Int) = 6 := rfl
theorem kt4 : (4 : Int).toNat = 4 := rfl
theorem kt5 : (5 : Int).toNat = 5 := rfl
theorem same_c (a0 a1 b0 b1 c0 c1 : List UInt8) (e : Int) : Called Tryz.prog 21 [.agg [.str a0, .str a1, .str b0, .str b1, .str c0, .str c1], .int .i64 e, .agg [.str a0, .str a1, .str b0, .str b1, .str c0, .str c1], .int .i64 e] (.bool true) := by
  refine called_of_run tbOk 6 ⟨Tryz.func21, rfl, rfl, Nat.le_of_ble_eq_true rfl⟩ ?_
  (conv => whnf)
  refine V.st ?_
  exact Fin.of (by simp)
def Bd3 (a0 a1 b0 b1 c0 c1 : List UInt8) : Prop := BdX 20 (a0, a1) ∧ BdX 20 (b0, b1) ∧ BdX 20 (c0, c1)
theorem xT_bd' {n : Nat} {q : Rat} (h : Fq n q) (h0 : 0 < n ∧ n ≤ 20) : BdX 20 (decZ q.num, dec q.den) := (xT_bd h ⟨h0.1, by omega⟩).mono (by omega)
theorem tri_x (a b c : Int) (ha : 0 ≤ a ∧ a ≤ 65535) (hb : 0 ≤ b ∧ b ≤ 65535) (hc : 0 ≤ c ∧ c ≤ 65535) : ∃ a0 a1 b0 b1 c0 c1, Called Tryz.prog 12 [.iarr .u16 [a, b, c]] (.agg [.str a0, .str a1, .str b0, .str b1, .str c0, .str c1]) ∧ Bd3 a0 a1 b0 b1 c0 c1 :=
  ⟨_, _, _, _, _, _, tri_c a b c ha hb hc, xT_bd' (fq_colour ha) (by omega), xT_bd' (fq_colour hb) (by omega), xT_bd' (fq_colour hc) (by omega)⟩
theorem white_x (a b c : Int) (ha : 0 ≤ a ∧ a ≤ 65535) (hb : 0 ≤ b ∧ b ≤ 65535) (hc : 0 ≤ c ∧ c ≤ 65535) : ∃ a0 a1 b0 b1 c0 c1, Called Tryz.prog 13 [.iarr .u16 [a, b, c]] (.agg [.str a0, .str a1, .str b0, .str b1, .str c0, .str c1]) ∧ Bd3 a0 a1 b0 b1 c0 c1 :=
  ⟨_, _, _, _, _, _, white_c a b c ha hb hc, xT_bd' (fq_colour (by omega)) (by omega), xT_bd' (fq_colour (by omega)) (by omega), xT_bd' (fq_colour (by omega)) (by omega)⟩
theorem fq_num {n d : Int} (hn : -32768 ≤ n ∧ n ≤ 32767) (hd : 0 ≤ d ∧ d ≤ 255) : Fq 5 (numQ n d) := by
  unfold numQ
  obtain ⟨m, hm⟩ : ∃ m : Nat, 1 + d = m := ⟨(1 + d).toNat, by omega⟩
  rw [hm]
  exact fq_divInt (by omega) (by omega) (by omega)
theorem num_x (n d : Int) (hn : -32768 ≤ n ∧ n ≤ 32767) (hd : 0 ≤ d ∧ d ≤ 255) : ∃ t0 t1, Called Tryz.prog 22 [.agg [.int .i16 n, .int .u8 d]] (.agg [.str t0, .str t1]) ∧ BdX 20 (t0, t1) :=
  ⟨_, _, numFrac_c n d hn hd, xT_bd' (fq_num hn hd) (by omega)⟩
theorem share_x (n d : Int) (hn : -32768 ≤ n ∧ n ≤ 32767) (hd : 0 ≤ d ∧ d ≤ 255) : ∃ t0 t1, Called Tryz.prog 23 [.agg [.int .i16 n, .int .u8 d]] (.agg [.str t0, .str t1]) ∧ BdX 20 (t0, t1) :=
  ⟨_, _, numShare_c n d hn hd, xT_bd' (fq_share hd) (by omega)⟩
theorem odd_x (s t : List UInt8) : ∃ t0 t1, Called Tryz.prog 24 [.agg [.str s, .str t]] (.agg [.str t0, .str t1]) ∧ BdX 20 (t0, t1) :=
  ⟨_, _, oddFrac_c s t, odd_bd (by simp; omega) (by simp; omega)⟩
theorem zZ49_0 : type_of% @Nat.zero_add ∧ type_of% @tn0 ∧ type_of% @tn1 ∧ type_of% @tn2 := ⟨@Nat.zero_add, @tn0, @tn1, @tn2⟩
theorem bend_x (k : Int) (s t a0 a1 b0 b1 c0 c1 : List UInt8) (hk : 0 ≤ k ∧ k ≤ 255) (h : Bd3 a0 a1 b0 b1 c0 c1) : ∃ u0 u1 v0 v1 w0 w1, Called Tryz.prog 14 [.agg [.int .u8 k, .str s, .str t], .agg [.str a0, .str a1, .str b0, .str b1, .str c0, .str c1]] (.agg [.str u0, .str u1, .str v0, .str v1, .str w0, .str w1]) ∧ Bd3 u0 u1 v0 v1 w0 w1 := by
  obtain ⟨t0, t1, c, b⟩ := odd_x s t
  have h3 : k % 3 = 0 ∨ k % 3 = 1 ∨ k % 3 = 2 := by omega
  rcases h3 with e | e | e
  · refine ⟨t0, t1, b0, b1, c0, c1, ?_, b, h.2.1, h.2.2⟩
    refine called_of_run tbOk 6 ⟨Tryz.func14, rfl, rfl, Nat.le_of_ble_eq_true rfl⟩ ?_
    (conv => whnf)
    (conv => whnf)
    (try simp only [Nat.zero_add])
    repeat ((first | refine V.s1 ?_); (try simp only [Nat.zero_add]))
    refine ⟨(.take 0 (.take 1 (.take 2 (.take 3 (.take 4 (.ev (.cons 5 [2, 1, 0] (.take 6 (.ev (.cons 7 [] (.done) (.nil)))) (.nil)))))))), [], ⟨by kernel_rfl, by kernel_rfl, by kernel_rfl, by kernel_rfl⟩, ?_⟩
    refine drw_meet [] [(3, .box [.str t0, .str t1, .str b0, .str b1, .str c0, .str c1])] ?_ ?_
    · (conv => whnf); (try simp only [zZ49_0, e])
      repeat' (first | exact V.wk | ((with_reducible refine And.intro ?_ draw_nil); (conv => whnf); (try simp only [zZ49_0, e])) | ((with_reducible first | refine draw_split ?_ ?_ | refine nds_split ?_ ?_) <;> (conv => whnf); (try simp only [zZ49_0, e])) | ((first | refine V.s1 ?_ | ((with_reducible refine recheck_and ?_ ?_); (focus ((conv => whnf); (try simp only [zZ49_0, e]); (repeat (refine V.s1 ?_; (try simp only [zZ49_0, e]))); exact ⟨rfl⟩)); (conv => whnf)) | ((try ((with_reducible refine .ext ?_); (conv => whnf); (try simp only [zZ49_0, e]))); (with_reducible refine call_intro (r := ?_) ?_ ?_); rotate_left; (focus (first | exact (c))); (conv => whnf))); (try simp only [zZ49_0, e])) | (refine And.intro ?_ ?_ <;> (conv => whnf); (try simp only [zZ49_0, e])))
    (conv => whnf)
    (try simp only [Nat.zero_add])
    repeat ((first | refine V.s1 ?_); (try simp only [Nat.zero_add]))
    exact Fin.of rfl
  · refine ⟨a0, a1, t0, t1, c0, c1, ?_, h.1, b, h.2.2⟩
    refine called_of_run tbOk 6 ⟨Tryz.func14, rfl, rfl, Nat.le_of_ble_eq_true rfl⟩ ?_
    (conv => whnf)
    (conv => whnf)
    (try simp only [Nat.zero_add])
    repeat ((first | refine V.s1 ?_); (try simp only [Nat.zero_add]))
    refine ⟨(.take 0 (.take 1 (.take 2 (.take 3 (.take 4 (.ev (.cons 5 [2, 1, 0] (.take 6 (.ev (.cons 7 [] (.done) (.nil)))) (.nil)))))))), [], ⟨by kernel_rfl, by kernel_rfl, by kernel_rfl, by kernel_rfl⟩, ?_⟩
    refine drw_meet [] [(3, .box [.str a0, .str a1, .str t0, .str t1, .str c0, .str c1])] ?_ ?_
    · (conv => whnf); (try simp only [zZ49_0, e])
      repeat' (first | exact V.wk | ((with_reducible refine And.intro ?_ draw_nil); (conv => whnf); (try simp only [zZ49_0, e])) | ((with_reducible first | refine draw_split ?_ ?_ | refine nds_split ?_ ?_) <;> (conv => whnf); (try simp only [zZ49_0, e])) | ((first | refine V.s1 ?_ | ((with_reducible refine recheck_and ?_ ?_); (focus ((conv => whnf); (try simp only [zZ49_0, e]); (repeat (refine V.s1 ?_; (try simp only [zZ49_0, e]))); exact ⟨rfl⟩)); (conv => whnf)) | ((try ((with_reducible refine .ext ?_); (conv => whnf); (try simp only [zZ49_0, e]))); (with_reducible refine call_intro (r := ?_) ?_ ?_); rotate_left; (focus (first | exact (c))); (conv => whnf))); (try simp only [zZ49_0, e])) | (refine And.intro ?_ ?_ <;> (conv => whnf); (try simp only [zZ49_0, e])))
    (conv => whnf)
    (try simp only [Nat.zero_add])
    repeat ((first | refine V.s1 ?_); (try simp only [Nat.zero_add]))
    exact Fin.of rfl
  · refine ⟨a0, a1, b0, b1, t0, t1, ?_, h.1, h.2.1, b⟩
    refine called_of_run tbOk 6 ⟨Tryz.func14, rfl, rfl, Nat.le_of_ble_eq_true rfl⟩ ?_
    (conv => whnf)
    (conv => whnf)
    (try simp only [Nat.zero_add])
    repeat ((first | refine V.s1 ?_); (try simp only [Nat.zero_add]))
    refine ⟨(.take 0 (.take 1 (.take 2 (.take 3 (.take 4 (.ev (.cons 5 [2, 1, 0] (.take 6 (.ev (.cons 7 [] (.done) (.nil)))) (.nil)))))))), [], ⟨by kernel_rfl, by kernel_rfl, by kernel_rfl, by kernel_rfl⟩, ?_⟩
    refine drw_meet [] [(3, .box [.str a0, .str a1, .str b0, .str b1, .str t0, .str t1])] ?_ ?_
    · (conv => whnf); (try simp only [zZ49_0, e])
      repeat' (first | exact V.wk | ((with_reducible refine And.intro ?_ draw_nil); (conv => whnf); (try simp only [zZ49_0, e])) | ((with_reducible first | refine draw_split ?_ ?_ | refine nds_split ?_ ?_) <;> (conv => whnf); (try simp only [zZ49_0, e])) | ((first | refine V.s1 ?_ | ((with_reducible refine recheck_and ?_ ?_); (focus ((conv => whnf); (try simp only [zZ49_0, e]); (repeat (refine V.s1 ?_; (try simp only [zZ49_0, e]))); exact ⟨rfl⟩)); (conv => whnf)) | ((try ((with_reducible refine .ext ?_); (conv => whnf); (try simp only [zZ49_0, e]))); (with_reducible refine call_intro (r := ?_) ?_ ?_); rotate_left; (focus (first | exact (c))); (conv => whnf))); (try simp only [zZ49_0, e])) | (refine And.intro ?_ ?_ <;> (conv => whnf); (try simp only [zZ49_0, e])))
    (conv => whnf)
    (try simp only [Nat.zero_add])
    repeat ((first | refine V.s1 ?_); (try simp only [Nat.zero_add]))
    exact Fin.of rfl
end Go.Proofs.YtfilfmadapjajaaGreatDoor
end
section
namespace Go.Proofs.YtfilfmadapjajaaGreatDoor
open Go Go.V Go.Nb
theorem from_x {a0 a1 b0 b1 c0 c1 : List UInt8} (ba : BdX 20 (a0, a1)) (bb : BdX 20 (b0, b1)) (bc : BdX 20 (c0, c1)) : ∃ u0 u1 v0 v1 w0 w1 e,
    Called Tryz.prog 25 [.agg [.str a0, .str a1], .agg [.str b0, .str b1], .agg [.str c0, .str c1]] (.tup [.agg [.str u0, .str u1, .str v0, .str v1, .str w0, .str w1], .int .i64 e]) ∧
    Called Tryz.prog 26 [.agg [.str a0, .str a1], .agg [.str b0, .str b1], .agg [.str c0, .str c1]] (.tup [.agg [.str u0, .str u1, .str v0, .str v1, .str w0, .str w1], .int .i64 e]) := by
  have l := lfrom_c (n := 20) (x := (a0, a1)) (y := (b0, b1)) (l := (c0, c1)) ba bb bc (by omega)
  have r := rfrom_c (n := 20) (x := (a0, a1)) (y := (b0, b1)) (l := (c0, c1)) ba bb bc (by omega)
  have f : ∃ x y, fromX (a0, a1) (b0, b1) (c0, c1) = triE x y := by
    unfold fromX
    repeat' split
    all_goals exact ⟨_, _, rfl⟩
  obtain ⟨x, y, f⟩ := f
  rw [f] at l r
  exact ⟨_, _, _, _, _, _, _, l, r⟩
theorem to_x {a0 a1 b0 b1 c0 c1 : List UInt8} (b : Bd3 a0 a1 b0 b1 c0 c1) : ∃ u0 u1 v0 v1 w0 w1 e,
    Called Tryz.prog 27 [.agg [.str a0, .str a1, .str b0, .str b1, .str c0, .str c1]] (.tup [.agg [.str u0, .str u1], .agg [.str v0, .str v1], .agg [.str w0, .str w1], .int .i64 e]) ∧
    Called Tryz.prog 28 [.agg [.str a0, .str a1, .str b0, .str b1, .str c0, .str c1]] (.tup [.agg [.str u0, .str u1], .agg [.str v0, .str v1], .agg [.str w0, .str w1], .int .i64 e]) := by
  have l := lto_c (n := 20) (x := (a0, a1)) (y := (b0, b1)) (z := (c0, c1)) b.1 b.2.1 b.2.2 (by omega)
  have r := rto_c (n := 20) (x := (a0, a1)) (y := (b0, b1)) (z := (c0, c1)) b.1 b.2.1 b.2.2 (by omega)
  have f : ∃ x y z e, toX (a0, a1) (b0, b1) (c0, c1) = x3E x y z e := by
    unfold toX
    repeat' split
    all_goals exact ⟨_, _, _, _, rfl⟩
  obtain ⟨x, y, z, e, f⟩ := f
  rw [f] at l r
  exact ⟨_, _, _, _, _, _, _, l, r⟩
end Go.Proofs.YtfilfmadapjajaaGreatDoor
end
section
namespace Go.Proofs.YtfilfmadapjajaaGreatDoor
open Go Go.V Go.Nb
theorem zZ52_0 : type_of% @Nat.zero_add ∧ type_of% @tn0 ∧ type_of% @tn1 ∧ type_of% @tn2 := ⟨@Nat.zero_add, @tn0, @tn1, @tn2⟩
theorem lightPlaces_c (n1 d1 n2 d2 n3 d3 c0 c1 c2 k : Int) (s t s' t' : List UInt8) (hn1 : -32768 ≤ n1 ∧ n1 ≤ 32767) (hd1 : 0 ≤ d1 ∧ d1 ≤ 255) (hn2 : -32768 ≤ n2 ∧ n2 ≤ 32767) (hd2 : 0 ≤ d2 ∧ d2 ≤ 255) (hn3 : -32768 ≤ n3 ∧ n3 ≤ 32767) (hd3 : 0 ≤ d3 ∧ d3 ≤ 255) (hc : (0 ≤ c0 ∧ c0 ≤ 65535) ∧ (0 ≤ c1 ∧ c1 ≤ 65535) ∧ (0 ≤ c2 ∧ c2 ≤ 65535)) (hk : 0 ≤ k ∧ k ≤ 255) :
    Called Tryz.prog 4 [.agg [.int .i16 n1, .int .u8 d1], .agg [.int .i16 n2, .int .u8 d2], .agg [.int .i16 n3, .int .u8 d3], .agg [.str s', .str t'], .iarr .u16 [c0, c1, c2], .agg [.int .u8 k, .str s, .str t]] (.bool true) := by
  obtain ⟨A0, A1, A2, A3, A4, A5, ta, ba⟩ := tri_x c0 c1 c2 hc.1 hc.2.1 hc.2.2
  obtain ⟨C0, C1, C2, C3, C4, C5, tc, bc⟩ := bend_x k s t A0 A1 A2 A3 A4 A5 hk ba
  obtain ⟨X0, X1, f1, bf1⟩ := num_x n1 d1 hn1 hd1
  obtain ⟨U0, U1, s1, bs1⟩ := share_x n1 d1 hn1 hd1
  obtain ⟨Y0, Y1, f2, bf2⟩ := num_x n2 d2 hn2 hd2
  obtain ⟨V0, V1, s2, bs2⟩ := share_x n2 d2 hn2 hd2
  obtain ⟨Z0, Z1, f3, bf3⟩ := num_x n3 d3 hn3 hd3
  obtain ⟨W0, W1, s3, bs3⟩ := share_x n3 d3 hn3 hd3
  obtain ⟨O0, O1, o, bo⟩ := odd_x s' t'
  obtain ⟨R0x0, R0x1, R0x2, R0x3, R0x4, R0x5, e0, l0, r0⟩ := from_x bf1 bf2 bf3
  obtain ⟨R1x0, R1x1, R1x2, R1x3, R1x4, R1x5, e1, l1, r1⟩ := from_x bs1 bs2 bf3
  obtain ⟨R2x0, R2x1, R2x2, R2x3, R2x4, R2x5, e2, l2, r2⟩ := from_x bo bs2 bs3
  obtain ⟨R3x0, R3x1, R3x2, R3x3, R3x4, R3x5, e3, l3, r3⟩ := from_x bs1 bo bs3
  obtain ⟨R4x0, R4x1, R4x2, R4x3, R4x4, R4x5, e4, l4, r4⟩ := from_x bs1 bs2 bo
  obtain ⟨R5x0, R5x1, R5x2, R5x3, R5x4, R5x5, e5, l5, r5⟩ := from_x bs2 bs1 bs3
  obtain ⟨Q0x0, Q0x1, Q0x2, Q0x3, Q0x4, Q0x5, g0, v0, w0⟩ := to_x ba
  obtain ⟨Q1x0, Q1x1, Q1x2, Q1x3, Q1x4, Q1x5, g1, v1, w1⟩ := to_x bc
  clear hn1 hd1 hn2 hd2 hn3 hd3 hc hk ba bc bf1 bf2 bf3 bs1 bs2 bs3 bo
  have sm := same_c
  refine called_of_run tbOk 6 ⟨Tryz.func4, rfl, rfl, Nat.le_of_ble_eq_true rfl⟩ ?_
  (conv => whnf)
  (conv => whnf)
  (try simp only [Nat.zero_add])
  repeat ((first | refine V.s1 ?_ | ((try ((with_reducible refine .ext ?_); (conv => whnf); (try simp only [Nat.zero_add]))); (with_reducible refine call_intro (r := ?_) ?_ ?_); rotate_left; (focus (first | exact (works_c))); (conv => whnf))); (try simp only [Nat.zero_add]))
  (conv => whnf)
  (try simp only [Nat.zero_add])
  repeat ((first | refine V.s1 ?_); (try simp only [Nat.zero_add]))
  refine ⟨(.take 0 (.take 2 (.take 4 (.take 7 (.take 9 (.take 11 (.take 14 (.take 16 (.take 18 (.take 21 (.take 23 (.take 25 (.take 28 (.take 30 (.take 32 (.take 35 (.take 37 (.take 39 (.take 43 (.ev (.cons 1 [43, 39, 37, 35, 32, 30, 28, 25, 23, 21, 18, 16, 14, 11, 9, 7, 4, 2] (.ev (.cons 3 [43, 39, 37, 35, 32, 30, 28, 25, 23, 21, 18, 16, 14, 11, 9, 7, 4] (.ev (.cons 5 [43, 39, 37, 35, 32, 30, 28, 25, 23, 21, 18, 16, 14, 11, 9, 7] (.take 6 (.ev (.cons 8 [6, 43, 39, 37, 35, 32, 30, 28, 25, 23, 21, 18, 16, 14, 11, 9] (.ev (.cons 10 [6, 43, 39, 37, 35, 32, 30, 28, 25, 23, 21, 18, 16, 14, 11] (.ev (.cons 12 [6, 43, 39, 37, 35, 32, 30, 28, 25, 23, 21, 18, 16, 14] (.take 13 (.ev (.cons 15 [13, 6, 43, 39, 37, 35, 32, 30, 28, 25, 23, 21, 18, 16] (.ev (.cons 17 [13, 6, 43, 39, 37, 35, 32, 30, 28, 25, 23, 21, 18] (.ev (.cons 19 [13, 6, 43, 39, 37, 35, 32, 30, 28, 25, 23, 21] (.take 20 (.ev (.cons 22 [20, 13, 6, 43, 39, 37, 35, 32, 30, 28, 25, 23] (.ev (.cons 24 [20, 13, 6, 43, 39, 37, 35, 32, 30, 28, 25] (.ev (.cons 26 [20, 13, 6, 43, 39, 37, 35, 32, 30, 28] (.take 27 (.ev (.cons 29 [27, 20, 13, 6, 43, 39, 37, 35, 32, 30] (.ev (.cons 31 [27, 20, 13, 6, 43, 39, 37, 35, 32] (.ev (.cons 33 [27, 20, 13, 6, 43, 39, 37, 35] (.take 34 (.ev (.cons 36 [34, 27, 20, 13, 6, 43, 39, 37] (.ev (.cons 38 [34, 27, 20, 13, 6, 43, 39] (.ev (.cons 40 [34, 27, 20, 13, 6, 43] (.take 41 (.take 42 (.done))) (.nil))) (.nil))) (.nil)))) (.nil))) (.nil))) (.nil)))) (.nil))) (.nil))) (.nil)))) (.nil))) (.nil))) (.nil)))) (.nil))) (.nil))) (.nil)))) (.nil))) (.nil))) (.nil)))))))))))))))))))))), [], ⟨by kernel_rfl, by kernel_rfl, by kernel_rfl, by kernel_rfl⟩, ?_⟩
  refine drw_meet [(73, .agg [.str X0, .str X1, .str Y0, .str Y1, .str Z0, .str Z1, .str U0, .str U1, .str V0, .str V1, .str Z0, .str Z1, .str O0, .str O1, .str V0, .str V1, .str W0, .str W1, .str U0, .str U1, .str O0, .str O1, .str W0, .str W1, .str U0, .str U1, .str V0, .str V1, .str O0, .str O1, .str V0, .str V1, .str U0, .str U1, .str W0, .str W1]), (74, .int .i64 0)] [] ?_ ?_
  · (conv => whnf); (try simp only [Nat.zero_add])
    repeat' (first | exact V.wk | ((with_reducible refine And.intro ?_ draw_nil); (conv => whnf); (try simp only [Nat.zero_add])) | ((with_reducible first | refine draw_split ?_ ?_ | refine nds_split ?_ ?_) <;> (conv => whnf); (try simp only [Nat.zero_add])) | ((first | refine V.s1 ?_ | ((with_reducible refine recheck_and ?_ ?_); (focus ((conv => whnf); (try simp only [Nat.zero_add]); (repeat (refine V.s1 ?_; (try simp only [Nat.zero_add]))); exact ⟨rfl⟩)); (conv => whnf)) | ((try ((with_reducible refine .ext ?_); (conv => whnf); (try simp only [Nat.zero_add]))); (with_reducible refine call_intro (r := ?_) ?_ ?_); rotate_left; (focus (first | exact (f1) | exact (f2) | exact (f3) | exact (s1) | exact (s2) | exact (s3) | exact (o))); (conv => whnf))); (try simp only [Nat.zero_add])) | (refine And.intro ?_ ?_ <;> (conv => whnf); (try simp only [Nat.zero_add])))
  (conv => whnf)
  (try simp only [zZ52_0])
  repeat ((first | refine V.s1 ?_); (try simp only [zZ52_0]))
  refine lp_any (0) (fun k => k ≤ 6) (fun k => 6 - k) (fun k => [(74, .int .i64 k)]) (fun k => []) ?_ ?_ ?_
  · exact V.wk
  · exact Nat.zero_le _
  intro k hk
  have hk4 : k = 0 ∨ k = 1 ∨ k = 2 ∨ k = 3 ∨ k = 4 ∨ k = 5 ∨ k = 6 := by omega
  rcases hk4 with e | e | e | e | e | e | e
  all_goals subst e
  · simp only [k0]
    (conv => whnf)
    (try simp only [zZ52_0])
    repeat ((first | refine V.s1 ?_ | ((try ((with_reducible refine .ext ?_); (conv => whnf); (try simp only [zZ52_0]))); (with_reducible refine call_intro (r := ?_) ?_ ?_); rotate_left; (focus (first | exact (l0) | exact (r0) | exact (sm _ _ _ _ _ _ _))); (conv => whnf))); (try simp only [zZ52_0]))
    exact ⟨1, by omega, by omega, V.wk⟩
  · simp only [k1]
    (conv => whnf)
    (try simp only [zZ52_0])
    repeat ((first | refine V.s1 ?_ | ((try ((with_reducible refine .ext ?_); (conv => whnf); (try simp only [zZ52_0]))); (with_reducible refine call_intro (r := ?_) ?_ ?_); rotate_left; (focus (first | exact (l1) | exact (r1) | exact (sm _ _ _ _ _ _ _))); (conv => whnf))); (try simp only [zZ52_0]))
    exact ⟨2, by omega, by omega, V.wk⟩
  · simp only [k2]
    (conv => whnf)
    (try simp only [zZ52_0])
    repeat ((first | refine V.s1 ?_ | ((try ((with_reducible refine .ext ?_); (conv => whnf); (try simp only [zZ52_0]))); (with_reducible refine call_intro (r := ?_) ?_ ?_); rotate_left; (focus (first | exact (l2) | exact (r2) | exact (sm _ _ _ _ _ _ _))); (conv => whnf))); (try simp only [zZ52_0]))
    exact ⟨3, by omega, by omega, V.wk⟩
  · simp only [k3]
    (conv => whnf)
    (try simp only [Nat.zero_add, tn0, tn1, tn2, tn3])
    repeat ((first | refine V.s1 ?_ | ((try ((with_reducible refine .ext ?_); (conv => whnf); (try simp only [Nat.zero_add, tn0, tn1, tn2, tn3]))); (with_reducible refine call_intro (r := ?_) ?_ ?_); rotate_left; (focus (first | exact (l3) | exact (r3) | exact (sm _ _ _ _ _ _ _))); (conv => whnf))); (try simp only [Nat.zero_add, tn0, tn1, tn2, tn3]))
    exact ⟨4, by omega, by omega, V.wk⟩
  · simp only [k4]
    (conv => whnf)
    (try simp only [Nat.zero_add, tn0, tn1, tn2, kt4])
    repeat ((first | refine V.s1 ?_ | ((try ((with_reducible refine .ext ?_); (conv => whnf); (try simp only [Nat.zero_add, tn0, tn1, tn2, kt4]))); (with_reducible refine call_intro (r := ?_) ?_ ?_); rotate_left; (focus (first | exact (l4) | exact (r4) | exact (sm _ _ _ _ _ _ _))); (conv => whnf))); (try simp only [Nat.zero_add, tn0, tn1, tn2, kt4]))
    exact ⟨5, by omega, by omega, V.wk⟩
  · simp only [kk5]
    (conv => whnf)
    (try simp only [Nat.zero_add, tn0, tn1, tn2, kt5])
    repeat ((first | refine V.s1 ?_ | ((try ((with_reducible refine .ext ?_); (conv => whnf); (try simp only [Nat.zero_add, tn0, tn1, tn2, kt5]))); (with_reducible refine call_intro (r := ?_) ?_ ?_); rotate_left; (focus (first | exact (l5) | exact (r5) | exact (sm _ _ _ _ _ _ _))); (conv => whnf))); (try simp only [Nat.zero_add, tn0, tn1, tn2, kt5]))
    exact ⟨6, by omega, by omega, V.wk⟩
  · simp only [kk6]
    (conv => whnf)
    (try simp only [zZ52_0])
    repeat ((first | refine V.s1 ?_); (try simp only [zZ52_0]))
    refine ⟨(.take 0 (.take 2 (.take 3 (.take 7 (.ev (.cons 1 [7, 3, 2] (.ev (.cons 4 [7, 2] (.ev (.cons 5 [7] (.take 6 (.done)) (.nil))) (.nil))) (.nil))))))), [], ⟨by kernel_rfl, by kernel_rfl, by kernel_rfl, by kernel_rfl⟩, ?_⟩
    refine drw_meet [(110, .agg [.str A0, .str A1, .str A2, .str A3, .str A4, .str A5, .str C0, .str C1, .str C2, .str C3, .str C4, .str C5]), (111, .int .i64 0)] [] ?_ ?_
    · (conv => whnf); (try simp only [Nat.zero_add])
      repeat' (first | exact V.wk | ((with_reducible refine And.intro ?_ draw_nil); (conv => whnf); (try simp only [Nat.zero_add])) | ((with_reducible first | refine draw_split ?_ ?_ | refine nds_split ?_ ?_) <;> (conv => whnf); (try simp only [Nat.zero_add])) | ((first | refine V.s1 ?_ | ((with_reducible refine recheck_and ?_ ?_); (focus ((conv => whnf); (try simp only [Nat.zero_add]); (repeat (refine V.s1 ?_; (try simp only [Nat.zero_add]))); exact ⟨rfl⟩)); (conv => whnf)) | ((try ((with_reducible refine .ext ?_); (conv => whnf); (try simp only [Nat.zero_add]))); (with_reducible refine call_intro (r := ?_) ?_ ?_); rotate_left; (focus (first | exact (ta) | exact (tc))); (conv => whnf))); (try simp only [Nat.zero_add])) | (refine And.intro ?_ ?_ <;> (conv => whnf); (try simp only [Nat.zero_add])))
    (conv => whnf)
    (try simp only [zZ52_0])
    repeat ((first | refine V.s1 ?_); (try simp only [zZ52_0]))
    refine lp_any (0) (fun k => k ≤ 2) (fun k => 2 - k) (fun k => [(111, .int .i64 k)]) (fun k => []) ?_ ?_ ?_
    · exact V.wk
    · exact Nat.zero_le _
    intro k hk
    have hk4 : k = 0 ∨ k = 1 ∨ k = 2 := by omega
    rcases hk4 with e | e | e
    all_goals subst e
    · simp only [k0]
      (conv => whnf)
      (try simp only [Nat.zero_add, tn0, tn1, tn2, dec_refl, dec_reflz, decide_true, Bool.and_true, Bool.true_and, Bool.and_self, Bool.not_true, Bool.not_false, Bool.or_false, Bool.or_self, ne_eq, not_true_eq_false, decide_false])
      repeat ((first | refine V.s1 ?_ | ((try ((with_reducible refine .ext ?_); (conv => whnf); (try simp only [Nat.zero_add, tn0, tn1, tn2, dec_refl, dec_reflz, decide_true, Bool.and_true, Bool.true_and, Bool.and_self, Bool.not_true, Bool.not_false, Bool.or_false, Bool.or_self, ne_eq, not_true_eq_false, decide_false]))); (with_reducible refine call_intro (r := ?_) ?_ ?_); rotate_left; (focus (first | exact (v0) | exact (w0))); (conv => whnf))); (try simp only [Nat.zero_add, tn0, tn1, tn2, dec_refl, dec_reflz, decide_true, Bool.and_true, Bool.true_and, Bool.and_self, Bool.not_true, Bool.not_false, Bool.or_false, Bool.or_self, ne_eq, not_true_eq_false, decide_false]))
      exact ⟨1, by omega, by omega, V.wk⟩
    · simp only [k1]
      (conv => whnf)
      (try simp only [Nat.zero_add, tn0, tn1, tn2, dec_refl, dec_reflz, decide_true, Bool.and_true, Bool.true_and, Bool.and_self, Bool.not_true, Bool.not_false, Bool.or_false, Bool.or_self, ne_eq, not_true_eq_false, decide_false])
      repeat ((first | refine V.s1 ?_ | ((try ((with_reducible refine .ext ?_); (conv => whnf); (try simp only [Nat.zero_add, tn0, tn1, tn2, dec_refl, dec_reflz, decide_true, Bool.and_true, Bool.true_and, Bool.and_self, Bool.not_true, Bool.not_false, Bool.or_false, Bool.or_self, ne_eq, not_true_eq_false, decide_false]))); (with_reducible refine call_intro (r := ?_) ?_ ?_); rotate_left; (focus (first | exact (v1) | exact (w1))); (conv => whnf))); (try simp only [Nat.zero_add, tn0, tn1, tn2, dec_refl, dec_reflz, decide_true, Bool.and_true, Bool.true_and, Bool.and_self, Bool.not_true, Bool.not_false, Bool.or_false, Bool.or_self, ne_eq, not_true_eq_false, decide_false]))
      exact ⟨2, by omega, by omega, V.wk⟩
    · simp only [k2]
      (conv => whnf)
      (try simp only [zZ52_0])
      repeat ((first | refine V.s1 ?_); (try simp only [zZ52_0]))
      exact Fin.of rfl
end Go.Proofs.YtfilfmadapjajaaGreatDoor
end
