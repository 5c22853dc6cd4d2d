/- What some functions of the program answer at values that mean given lists and numbers, each proved of the program's own code. Conditions: those that each theorem names. -/
import Derived.Test.YtfhmfpneiagakaaT17
import Derived.Test.YtfhmfpneiagakaaT18
set_option linter.unusedSimpArgs false
set_option linter.unusedVariables false
set_option maxHeartbeats 8000000
set_option maxRecDepth 100000
namespace Go.Proofs.Ytfhmfpneiagakaa
open Go Go.V Go.Gr
theorem wakes_c : Called Try.prog 10 [] (.bool true) := by
  have hl1 : ([2, 3] : List Int).length ≤ 281474976710656 := by decide
  have hl2 : dat12.length ≤ 281474976710656 := by decide
  have p1 : Called Try.prog 13 [gridD [2, 3] 2 dat12, .ints .i64 [1, 2]] (.tup [.int .i64 10, .int .i64 0]) := Called.cast (gplace_c _ _ _ _ hl1 hl2 (by decide)) (by kernel_rfl)
  have p2 : Called Try.prog 15 [gridD [2, 3] 2 dat12, .ints .i64 [0, 1]] (.tup [.ints .i64 [2, 3], .int .i64 0]) := Called.cast (gat_c _ _ _ _ hl1 hl2 (by decide)) (by kernel_rfl)
  have p3 : Called Try.prog 27 [gridD [2, 3] 2 dat12] (.tup [.ints .i64 [0, 1], .ints .i64 [10, 11], .int .i64 0]) := Called.cast (range_c _ _ _ hl1 hl2) (by kernel_rfl)
  have p4 : Called Try.prog 18 [gridD [2, 3] 2 dat12, .int .i64 0, .int .i64 1] (.tup [gridD [3, 2] 2 [0, 1, 6, 7, 2, 3, 8, 9, 4, 5, 10, 11], .int .i64 0]) := Called.cast (swap_c _ _ _ _ _ hl1 hl2) (by kernel_rfl)
  have p5 : Called Try.prog 21 [gridD [2, 3] 2 dat12, .ints .i64 [1]] (.tup [gridD [2, 3] 1 [1, 3, 5, 7, 9, 11], .int .i64 0]) := Called.cast (pick_c _ _ _ _ hl1 hl2 (by decide)) (by kernel_rfl)
  have p6 : Called Try.prog 15 [gridD [2, 3] 2 dat12, .ints .i64 [2, 0]] (.tup [.ints .i64 [], .int .i64 2]) := Called.cast (gat_c _ _ _ _ hl1 hl2 (by decide)) (by kernel_rfl)
  have p7 : Called Try.prog 25 [gridD [2, 3] 2 (dat12.take 11)] (.int .i64 100) := Called.cast (check_c _ _ _ hl1 (by decide)) (by kernel_rfl)
  have q1 : Called Try.prog 17 [.ints .i64 [2, 3], .ints .i64 [2, 3]] (.bool true) := Called.cast (equal_c _ _ (by decide) (by decide)) (by kernel_rfl)
  have q2 : Called Try.prog 17 [.ints .i64 [0, 1], .ints .i64 [0, 1]] (.bool true) := Called.cast (equal_c _ _ (by decide) (by decide)) (by kernel_rfl)
  have q3 : Called Try.prog 17 [.ints .i64 [10, 11], .ints .i64 [10, 11]] (.bool true) := Called.cast (equal_c _ _ (by decide) (by decide)) (by kernel_rfl)
  have q4 : Called Try.prog 17 [.ints .i64 [3, 2], .ints .i64 [3, 2]] (.bool true) := Called.cast (equal_c _ _ (by decide) (by decide)) (by kernel_rfl)
  have q5 : Called Try.prog 17 [.ints .i64 [0, 1, 6, 7, 2, 3, 8, 9, 4, 5, 10, 11], .ints .i64 [0, 1, 6, 7, 2, 3, 8, 9, 4, 5, 10, 11]] (.bool true) := Called.cast (equal_c _ _ (by decide) (by decide)) (by kernel_rfl)
  have q6 : Called Try.prog 17 [.ints .i64 [1, 3, 5, 7, 9, 11], .ints .i64 [1, 3, 5, 7, 9, 11]] (.bool true) := Called.cast (equal_c _ _ (by decide) (by decide)) (by kernel_rfl)
  have hd12 : dat12.length = 12 := rfl
  refine called_of_run tbOk 6 ⟨Try.func10, rfl, rfl, Nat.le_of_ble_eq_true rfl⟩ ?_
  (conv => whnf)
  refine V.st ?_
  repeat ((try ((with_reducible refine .ext ?_); (conv => whnf))); (with_reducible refine call_intro (r := ?_) ?_ ?_); rotate_left; (focus (first | exact (twelve_c) | exact (p1) | exact (p2) | exact (p3) | exact (p4) | exact (p5) | exact (p6) | exact (p7) | exact (q1) | exact (q2) | exact (q3) | exact (q4) | exact (q5) | exact (q6))); (conv => whnf); refine V.st ?_)

  exact Fin.of (by kernel_rfl)
end Go.Proofs.Ytfhmfpneiagakaa
