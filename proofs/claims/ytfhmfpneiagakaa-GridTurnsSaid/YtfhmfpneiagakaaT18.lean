/- What some functions of the program answer at values that mean given lists and numbers, each proved of the program's own code. Conditions: those that each theorem names. -/
import Derived.Test.YtfhmfpneiagakaaT11
set_option linter.unusedSimpArgs false
set_option linter.unusedVariables false
set_option maxHeartbeats 8000000
set_option maxRecDepth 100000
namespace Go.Proofs.Ytfhmfpneiagakaa
open Go Go.V Go.Gr
def dat12 : List Int := [0, 1, 2, 3, 4, 5, 6, 7, 8, 9, 10, 11]
theorem twelve_c : Called Try.prog 28 [] (gridD [2, 3] 2 dat12) := by
  refine called_of_run tbOk 6 ⟨Try.func28, rfl, rfl, Nat.le_of_ble_eq_true rfl⟩ ?_
  (conv => whnf)
  refine V.st ?_
  exact Fin.of rfl
theorem zeros_c (n : Nat) (h : n ≤ 100000) : Called Try.prog 26 [.int .i64 n] (.ints .i64 (List.replicate n 0)) := by
  refine called_of_run tbOk 6 ⟨Try.func26, rfl, rfl, Nat.le_of_ble_eq_true rfl⟩ ?_
  (conv => whnf)
  refine V.st ?_
  refine Fin.of ?_
  simp
theorem copied_c (size : List Int) (out : Int) (data : List Int) (hs : size.length ≤ 281474976710656) (hd : data.length ≤ 281474976710656) : Called Try.prog 33 [gridD size out data] (gridD (size.take 8) out (data.take 5000)) := by
  have e1 : List.take (min (size.length : Int) 8).toNat size = size.take 8 := by
    rcases Nat.lt_or_ge size.length 8 with h | h
    · rw [List.take_of_length_le (by omega), List.take_of_length_le (by omega)]
    · congr 1; omega
  have e2 : List.take (min (data.length : Int) 5000).toNat data = data.take 5000 := by
    rcases Nat.lt_or_ge data.length 5000 with h | h
    · rw [List.take_of_length_le (by omega), List.take_of_length_le (by omega)]
    · congr 1; omega
  have l1 : (size.take 8).length ≤ 8 := by simp; omega
  have l2 : (data.take 5000).length ≤ 5000 := by simp; omega
  generalize hst : size.take 8 = st at *
  generalize hdt : data.take 5000 = dt at *
  refine called_of_run tbOk 6 ⟨Try.func33, rfl, rfl, Nat.le_of_ble_eq_true rfl⟩ ?_
  (conv => whnf)
  (conv => whnf)
  (try simp only [e1])
  repeat (first | (refine V.s1 ?_; (try simp only [e1])) | ((with_reducible refine recheck_and ?_ ?_); (focus ((conv => whnf); (try simp only [e1]); (repeat (refine V.s1 ?_; (try simp only [e1]))); exact ⟨rfl⟩)); (conv => whnf); (try simp only [e1])))
  try refine And.intro (fun _ => ⟨rfl, by omega⟩) ?_
  (conv => whnf)
  (try simp only [e2, List.nil_append, Nat.zero_add])
  repeat (first | (refine V.s1 ?_; (try simp only [e2, List.nil_append, Nat.zero_add])) | ((with_reducible refine recheck_and ?_ ?_); (focus ((conv => whnf); (try simp only [e2, List.nil_append, Nat.zero_add]); (repeat (refine V.s1 ?_; (try simp only [e2, List.nil_append, Nat.zero_add]))); exact ⟨rfl⟩)); (conv => whnf); (try simp only [e2, List.nil_append, Nat.zero_add])))
  try refine And.intro (fun _ => ⟨rfl, by omega⟩) ?_
  (conv => whnf)
  (try simp only [List.nil_append, Nat.zero_add, List.take_length])
  repeat (first | (refine V.s1 ?_; (try simp only [List.nil_append, Nat.zero_add, List.take_length])) | ((with_reducible refine recheck_and ?_ ?_); (focus ((conv => whnf); (try simp only [List.nil_append, Nat.zero_add, List.take_length]); (repeat (refine V.s1 ?_; (try simp only [List.nil_append, Nat.zero_add, List.take_length]))); exact ⟨rfl⟩)); (conv => whnf); (try simp only [List.nil_append, Nat.zero_add, List.take_length])))
  exact Fin.of rfl
end Go.Proofs.Ytfhmfpneiagakaa
