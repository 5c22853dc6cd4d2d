/- What some functions of the program answer at values that mean given lists and numbers, each proved of the program's own code. Conditions: those that each theorem names. -/
import Derived.Test.YtfhmfpneiagakaaT18
import Derived.Test.YtfhmfpneiagakaaV9
set_option linter.unusedSimpArgs false
set_option linter.unusedVariables false
set_option maxHeartbeats 8000000
set_option maxRecDepth 100000
namespace Go.Proofs.Ytfhmfpneiagakaa
open Go Go.V Go.Gr
def dbl (da : List Int) : Nat → List Int
  | 0 => da
  | k + 1 => dbl da k ++ (dbl da k).take (min (dbl da k).length 4096)
theorem dbl_length (da : List Int) (k : Nat) : (dbl da k).length ≤ da.length + 4096 * k := by
  induction k with
  | zero => simp [dbl]
  | succ k ih => simp only [dbl, List.length_append, List.length_take]; omega
def bendD (what at1 n : Int) : D := .agg [.int .u8 what, .int .u8 at1, .int .i64 n]
theorem bend_c (what at1 n : Int) (size : List Int) (out : Int) (data : List Int) (hw : 0 ≤ what ∧ what ≤ 255) (ha : 0 ≤ at1 ∧ at1 ≤ 255) (hs : size.length ≤ 281474976710656) (hd : data.length ≤ 281474976710656) :
    ∃ s o d, Called Try.prog 32 [bendD what at1 n, gridD size out data] (gridD s o d) ∧ s.length ≤ 100 ∧ d.length ≤ 100000 := by
  have e1 : List.take (min (size.length : Int) 8).toNat size = size.take 8 := by
    rcases Nat.lt_or_ge size.length 8 with h | h
    · rw [List.take_of_length_le (by omega), List.take_of_length_le (by omega)]
    · congr 1; omega
  have e2 : List.take (min (data.length : Int) 5000).toNat data = data.take 5000 := by
    rcases Nat.lt_or_ge data.length 5000 with h | h
    · rw [List.take_of_length_le (by omega), List.take_of_length_le (by omega)]
    · congr 1; omega
  have l1 : (size.take 8).length ≤ 8 := by simp; omega
  have l2 : (data.take 5000).length ≤ 5000 := by simp; omega
  generalize hst : size.take 8 = st at *
  generalize hdt : data.take 5000 = dt at *
  have hm : what % 8 = 0 ∨ what % 8 = 1 ∨ what % 8 = 2 ∨ what % 8 = 3 ∨ what % 8 = 4 ∨ what % 8 = 5 ∨ what % 8 = 6 ∨ what % 8 = 7 := by omega
  generalize hk : (4 + at1 % 2 - st.length).toNat = k
  have hR : ∃ s o d, s.length ≤ 100 ∧ d.length ≤ 100000 ∧
      ((what % 8 = 0 ∧ s = st ∧ o = n ∧ d = dt) ∨ (what % 8 = 1 ∧ s = st.set (at1 % st.length).toNat n ∧ o = out ∧ d = dt) ∨ (what % 8 = 2 ∧ s = st ∧ o = out ∧ d = dt.set (at1 % dt.length).toNat n) ∨
       (what % 8 = 3 ∧ s = st.take (min (st.length : Int) (at1 % 2)).toNat ∧ o = out ∧ d = dt) ∨ (what % 8 = 4 ∧ s = st ++ [2] ∧ o = out ∧ d = dt) ∨ (what % 8 = 5 ∧ s = st ∧ o = out ∧ d = dt ++ [n]) ∨
       (what % 8 = 6 ∧ s = List.replicate k 2 ++ st ∧ o = out ∧ d = dbl dt k) ∨ (what % 8 = 7 ∧ s = st ∧ o = out ∧ d = dt)) := by
    rcases hm with hm | hm | hm | hm | hm | hm | hm | hm
    · exact ⟨st, n, dt, by omega, by omega, .inl ⟨hm, rfl, rfl, rfl⟩⟩
    · exact ⟨_, out, dt, by simp; omega, by omega, .inr (.inl ⟨hm, rfl, rfl, rfl⟩)⟩
    · exact ⟨st, out, _, by omega, by simp; omega, .inr (.inr (.inl ⟨hm, rfl, rfl, rfl⟩))⟩
    · exact ⟨_, out, dt, by simp; omega, by omega, .inr (.inr (.inr (.inl ⟨hm, rfl, rfl, rfl⟩)))⟩
    · exact ⟨_, out, dt, by simp; omega, by omega, .inr (.inr (.inr (.inr (.inl ⟨hm, rfl, rfl, rfl⟩))))⟩
    · exact ⟨st, out, _, by omega, by simp; omega, .inr (.inr (.inr (.inr (.inr (.inl ⟨hm, rfl, rfl, rfl⟩)))))⟩
    · refine ⟨_, out, _, ?_, ?_, .inr (.inr (.inr (.inr (.inr (.inr (.inl ⟨hm, rfl, rfl, rfl⟩))))))⟩
      · simp; omega
      · have := dbl_length dt k
        omega
    · exact ⟨st, out, dt, by omega, by omega, .inr (.inr (.inr (.inr (.inr (.inr (.inr ⟨hm, rfl, rfl, rfl⟩))))))⟩
  obtain ⟨s, o, d, hR1, hR2, hR⟩ := hR
  refine ⟨s, o, d, ?_, hR1, hR2⟩
  refine called_of_run tbOk 6 ⟨Try.func32, rfl, rfl, Nat.le_of_ble_eq_true rfl⟩ ?_
  (conv => whnf)
  refine V.st ?_
  refine .inl ?_
  (conv => whnf)
  refine ⟨0, _, _, ⟨Try.func33, rfl, rfl, Nat.le_of_ble_eq_true rfl⟩, ?_⟩
  (conv => whnf)
  (conv => whnf)
  (try simp only [e1])
  repeat (first | (refine V.s1 ?_; (try simp only [e1])) | ((with_reducible refine recheck_and ?_ ?_); (focus ((conv => whnf); (try simp only [e1]); (repeat (refine V.s1 ?_; (try simp only [e1]))); exact ⟨rfl⟩)); (conv => whnf); (try simp only [e1])))
  try refine And.intro (fun _ => ⟨rfl, by omega⟩) ?_
  (conv => whnf)
  (try simp only [e2, List.nil_append, Nat.zero_add])
  repeat (first | (refine V.s1 ?_; (try simp only [e2, List.nil_append, Nat.zero_add])) | ((with_reducible refine recheck_and ?_ ?_); (focus ((conv => whnf); (try simp only [e2, List.nil_append, Nat.zero_add]); (repeat (refine V.s1 ?_; (try simp only [e2, List.nil_append, Nat.zero_add]))); exact ⟨rfl⟩)); (conv => whnf); (try simp only [e2, List.nil_append, Nat.zero_add])))
  try refine And.intro (fun _ => ⟨rfl, by omega⟩) ?_
  (conv => whnf)
  (try simp only [List.nil_append, Nat.zero_add, List.take_length])
  repeat (first | (refine V.s1 ?_; (try simp only [List.nil_append, Nat.zero_add, List.take_length])) | ((with_reducible refine recheck_and ?_ ?_); (focus ((conv => whnf); (try simp only [List.nil_append, Nat.zero_add, List.take_length]); (repeat (refine V.s1 ?_; (try simp only [List.nil_append, Nat.zero_add, List.take_length]))); exact ⟨rfl⟩)); (conv => whnf); (try simp only [List.nil_append, Nat.zero_add, List.take_length])))
  rcases hR with ⟨hm, rfl, rfl, rfl⟩ | ⟨hm, rfl, rfl, rfl⟩ | ⟨hm, rfl, rfl, rfl⟩ | ⟨hm, rfl, rfl, rfl⟩ | ⟨hm, rfl, rfl, rfl⟩ | ⟨hm, rfl, rfl, rfl⟩ | ⟨hm, rfl, rfl, rfl⟩ | ⟨hm, rfl, rfl, rfl⟩
  · (conv => whnf)
    (try simp only [hm])
    repeat (first | (refine V.s1 ?_; (try simp only [hm])) | ((with_reducible refine recheck_and ?_ ?_); (focus ((conv => whnf); (try simp only [hm]); (repeat (refine V.s1 ?_; (try simp only [hm]))); exact ⟨rfl⟩)); (conv => whnf); (try simp only [hm])))
    simp only [List.take_length]
    exact Fin.of rfl
  · (conv => whnf)
    (try simp only [hm])
    repeat (first | (refine V.s1 ?_; (try simp only [hm])) | ((with_reducible refine recheck_and ?_ ?_); (focus ((conv => whnf); (try simp only [hm]); (repeat (refine V.s1 ?_; (try simp only [hm]))); exact ⟨rfl⟩)); (conv => whnf); (try simp only [hm])))
    refine Cnd.split (CondB.mk (fun hq => ?_) (fun hq => ?_))
    · rw [decide_eq_true_eq] at hq
      have hb1 : 0 ≤ at1 % (st.length : Int) := Int.emod_nonneg _ (by omega)
      have hb2 : at1 % (st.length : Int) < st.length := Int.emod_lt_of_pos _ (by omega)
      refine ⟨(.take 0 (.take 1 (.take 2 (.take 3 (.take 4 (.take 5 (.take 6 (.take 7 (.ev (.cons 8 [] (.done) (.nil))))))))))), ⟨by kernel_rfl, by kernel_rfl, by kernel_rfl⟩, .go ?_⟩
      (conv => whnf)
      (try simp only [hm, Nat.zero_add])
      repeat (first | (refine V.s1 ?_; (try simp only [hm, Nat.zero_add])) | ((with_reducible refine recheck_and ?_ ?_); (focus ((conv => whnf); (try simp only [hm, Nat.zero_add]); (repeat (refine V.s1 ?_; (try simp only [hm, Nat.zero_add]))); exact ⟨rfl⟩)); (conv => whnf); (try simp only [hm, Nat.zero_add])))
      rw [List.take_of_length_le (by simp), List.take_length]
      exact Fin.of rfl
    · rw [decide_eq_false_iff_not] at hq
      have h0 : st = [] := List.length_eq_zero_iff.1 (by omega)
      subst h0
      (conv => whnf)
      (try simp only [hm])
      repeat (first | (refine V.s1 ?_; (try simp only [hm])) | ((with_reducible refine recheck_and ?_ ?_); (focus ((conv => whnf); (try simp only [hm]); (repeat (refine V.s1 ?_; (try simp only [hm]))); exact ⟨rfl⟩)); (conv => whnf); (try simp only [hm])))
      simp only [List.take_length]
      exact Fin.of rfl
  · (conv => whnf)
    (try simp only [hm])
    repeat (first | (refine V.s1 ?_; (try simp only [hm])) | ((with_reducible refine recheck_and ?_ ?_); (focus ((conv => whnf); (try simp only [hm]); (repeat (refine V.s1 ?_; (try simp only [hm]))); exact ⟨rfl⟩)); (conv => whnf); (try simp only [hm])))
    refine Cnd.split (CondB.mk (fun hq => ?_) (fun hq => ?_))
    · rw [decide_eq_true_eq] at hq
      have hb1 : 0 ≤ at1 % (dt.length : Int) := Int.emod_nonneg _ (by omega)
      have hb2 : at1 % (dt.length : Int) < dt.length := Int.emod_lt_of_pos _ (by omega)
      refine ⟨(.take 0 (.take 1 (.take 2 (.take 3 (.take 4 (.take 5 (.take 6 (.take 7 (.ev (.cons 8 [] (.done) (.nil))))))))))), ⟨by kernel_rfl, by kernel_rfl, by kernel_rfl⟩, .go ?_⟩
      (conv => whnf)
      (try simp only [hm, Nat.zero_add])
      repeat (first | (refine V.s1 ?_; (try simp only [hm, Nat.zero_add])) | ((with_reducible refine recheck_and ?_ ?_); (focus ((conv => whnf); (try simp only [hm, Nat.zero_add]); (repeat (refine V.s1 ?_; (try simp only [hm, Nat.zero_add]))); exact ⟨rfl⟩)); (conv => whnf); (try simp only [hm, Nat.zero_add])))
      rw [List.take_length, List.take_of_length_le (by simp)]
      exact Fin.of rfl
    · rw [decide_eq_false_iff_not] at hq
      have h0 : dt = [] := List.length_eq_zero_iff.1 (by omega)
      subst h0
      (conv => whnf)
      (try simp only [hm])
      repeat (first | (refine V.s1 ?_; (try simp only [hm])) | ((with_reducible refine recheck_and ?_ ?_); (focus ((conv => whnf); (try simp only [hm]); (repeat (refine V.s1 ?_; (try simp only [hm]))); exact ⟨rfl⟩)); (conv => whnf); (try simp only [hm])))
      simp only [List.take_length]
      exact Fin.of rfl
  · (conv => whnf)
    (try simp only [hm])
    repeat (first | (refine V.s1 ?_; (try simp only [hm])) | ((with_reducible refine recheck_and ?_ ?_); (focus ((conv => whnf); (try simp only [hm]); (repeat (refine V.s1 ?_; (try simp only [hm]))); exact ⟨rfl⟩)); (conv => whnf); (try simp only [hm])))
    simp only [List.take_length]
    exact Fin.of rfl
  · (conv => whnf)
    (try simp only [hm])
    repeat (first | (refine V.s1 ?_; (try simp only [hm])) | ((with_reducible refine recheck_and ?_ ?_); (focus ((conv => whnf); (try simp only [hm]); (repeat (refine V.s1 ?_; (try simp only [hm]))); exact ⟨rfl⟩)); (conv => whnf); (try simp only [hm])))
    try refine And.intro (fun _ => ⟨trivial, by simp; omega⟩) ?_
    (conv => whnf)
    (try simp only [hm, Nat.zero_add])
    repeat (first | (refine V.s1 ?_; (try simp only [hm, Nat.zero_add])) | ((with_reducible refine recheck_and ?_ ?_); (focus ((conv => whnf); (try simp only [hm, Nat.zero_add]); (repeat (refine V.s1 ?_; (try simp only [hm, Nat.zero_add]))); exact ⟨rfl⟩)); (conv => whnf); (try simp only [hm, Nat.zero_add])))
    refine Fin.of ?_
    simp [gridD, List.take_of_length_le]
  · (conv => whnf)
    (try simp only [hm])
    repeat (first | (refine V.s1 ?_; (try simp only [hm])) | ((with_reducible refine recheck_and ?_ ?_); (focus ((conv => whnf); (try simp only [hm]); (repeat (refine V.s1 ?_; (try simp only [hm]))); exact ⟨rfl⟩)); (conv => whnf); (try simp only [hm])))
    try refine And.intro (fun _ => ⟨trivial, by simp; omega⟩) ?_
    (conv => whnf)
    (try simp only [hm, Nat.zero_add])
    repeat (first | (refine V.s1 ?_; (try simp only [hm, Nat.zero_add])) | ((with_reducible refine recheck_and ?_ ?_); (focus ((conv => whnf); (try simp only [hm, Nat.zero_add]); (repeat (refine V.s1 ?_; (try simp only [hm, Nat.zero_add]))); exact ⟨rfl⟩)); (conv => whnf); (try simp only [hm, Nat.zero_add])))
    refine Fin.of ?_
    simp [gridD, List.take_of_length_le]
  · (conv => whnf)
    (try simp only [hm])
    repeat (first | (refine V.s1 ?_; (try simp only [hm])) | ((with_reducible refine recheck_and ?_ ?_); (focus ((conv => whnf); (try simp only [hm]); (repeat (refine V.s1 ?_; (try simp only [hm]))); exact ⟨rfl⟩)); (conv => whnf); (try simp only [hm])))
    refine lp_any 0 (fun j => j ≤ k) (fun j => k - j) (fun j => []) (fun j => match j with
      | 0 => [(3, .box [.osl 117 0 st.length, .int .i64 o, .osl 127 0 dt.length]), (117, .arr .i64 st), (127, .arr .i64 dt)]
      | m + 1 => [(3, .box [.osl 91 0 (List.replicate (m + 1) 2 ++ st).length, .int .i64 o, .osl 102 0 (dbl dt (m + 1)).length]), (91, .arr .i64 (List.replicate (m + 1) 2 ++ st)), (102, .arr .i64 (dbl dt (m + 1))), (127, .gone)]) ?_ (Nat.zero_le _) ?_
    · exact V.wk
    intro j hj
    cases j with
    | zero =>
      (conv => whnf)
      refine V.st ?_
      refine Cnd.split (CondB.mk (fun hq => ?_) (fun hq => ?_))
      · rw [decide_eq_true_eq] at hq
        have hj1 : 0 < k := by omega
        have hdb := dbl_length dt 0
        (conv => whnf)
        (try simp only [hm, Nat.zero_add])
        repeat (first | (refine V.s1 ?_; (try simp only [hm, Nat.zero_add])) | ((with_reducible refine recheck_and ?_ ?_); (focus ((conv => whnf); (try simp only [hm, Nat.zero_add]); (repeat (refine V.s1 ?_; (try simp only [hm, Nat.zero_add]))); exact ⟨rfl⟩)); (conv => whnf); (try simp only [hm, Nat.zero_add])))
        try refine And.intro (fun _ => ⟨rfl, by simp; omega⟩) ?_
        (conv => whnf)
        (try simp only [hm, Nat.zero_add])
        repeat (first | (refine V.s1 ?_; (try simp only [hm, Nat.zero_add])) | ((with_reducible refine recheck_and ?_ ?_); (focus ((conv => whnf); (try simp only [hm, Nat.zero_add]); (repeat (refine V.s1 ?_; (try simp only [hm, Nat.zero_add]))); exact ⟨rfl⟩)); (conv => whnf); (try simp only [hm, Nat.zero_add])))
        refine ⟨(.take 0 (.take 1 (.take 2 (.take 3 (.take 4 (.take 5 (.take 6 (.take 7 (.take 8 (.ev (.cons 9 [] (.take 10 (.ev (.cons 11 [] (.done) (.nil)))) (.nil)))))))))))), ⟨by kernel_rfl, by kernel_rfl, by kernel_rfl⟩, .go ?_⟩
        (conv => whnf)
        (try simp only [hm, Nat.zero_add])
        repeat (first | (refine V.s1 ?_; (try simp only [hm, Nat.zero_add])) | ((with_reducible refine recheck_and ?_ ?_); (focus ((conv => whnf); (try simp only [hm, Nat.zero_add]); (repeat (refine V.s1 ?_; (try simp only [hm, Nat.zero_add]))); exact ⟨rfl⟩)); (conv => whnf); (try simp only [hm, Nat.zero_add])))
        try refine And.intro (fun _ => ⟨trivial, by simp; omega⟩) ?_
        have hmin : (min ((dt).length : Int) 4096).toNat = min (dt).length 4096 := by omega
        have hA2 : dt ++ List.take (min (dt).length 4096) (dt) = dbl dt (0 + 1) := rfl
        have hAl : (dt).length + (List.take (min (dt).length 4096) (dt)).length = (dbl dt (0 + 1)).length := by rw [← hA2, List.length_append]
        have hS : [2] ++ (st) = List.replicate (0 + 1) 2 ++ st := rfl
        have hSl : 1 + (st).length = (List.replicate (0 + 1) 2 ++ st).length := by simp only [List.length_append, List.length_replicate] <;> omega
        (conv => whnf)
        (try simp only [hm, List.drop_zero, List.take_length, hmin, hA2, hAl, hS, hSl])
        repeat (first | (refine V.s1 ?_; (try simp only [hm, List.drop_zero, List.take_length, hmin, hA2, hAl, hS, hSl])) | ((with_reducible refine recheck_and ?_ ?_); (focus ((conv => whnf); (try simp only [hm, List.drop_zero, List.take_length, hmin, hA2, hAl, hS, hSl]); (repeat (refine V.s1 ?_; (try simp only [hm, List.drop_zero, List.take_length, hmin, hA2, hAl, hS, hSl]))); exact ⟨rfl⟩)); (conv => whnf); (try simp only [hm, List.drop_zero, List.take_length, hmin, hA2, hAl, hS, hSl])))
        exact ⟨0 + 1, hj1, by omega, V.wk⟩
      · rw [decide_eq_false_iff_not] at hq
        have hj1 : 0 = k := by omega
        subst hj1
        (conv => whnf)
        (try simp only [hm])
        repeat (first | (refine V.s1 ?_; (try simp only [hm])) | ((with_reducible refine recheck_and ?_ ?_); (focus ((conv => whnf); (try simp only [hm]); (repeat (refine V.s1 ?_; (try simp only [hm]))); exact ⟨rfl⟩)); (conv => whnf); (try simp only [hm])))
        simp only [List.take_length]
        exact Fin.of rfl
    | succ j =>
      (conv => whnf)
      refine V.st ?_
      refine Cnd.split (CondB.mk (fun hq => ?_) (fun hq => ?_))
      · rw [decide_eq_true_eq] at hq
        have hj1 : (j + 1) < k := by simp at hq; omega
        have hdb := dbl_length dt (j + 1)
        (conv => whnf)
        (try simp only [hm, Nat.zero_add])
        repeat (first | (refine V.s1 ?_; (try simp only [hm, Nat.zero_add])) | ((with_reducible refine recheck_and ?_ ?_); (focus ((conv => whnf); (try simp only [hm, Nat.zero_add]); (repeat (refine V.s1 ?_; (try simp only [hm, Nat.zero_add]))); exact ⟨rfl⟩)); (conv => whnf); (try simp only [hm, Nat.zero_add])))
        try refine And.intro (fun _ => ⟨rfl, by simp; omega⟩) ?_
        (conv => whnf)
        (try simp only [hm, Nat.zero_add])
        repeat (first | (refine V.s1 ?_; (try simp only [hm, Nat.zero_add])) | ((with_reducible refine recheck_and ?_ ?_); (focus ((conv => whnf); (try simp only [hm, Nat.zero_add]); (repeat (refine V.s1 ?_; (try simp only [hm, Nat.zero_add]))); exact ⟨rfl⟩)); (conv => whnf); (try simp only [hm, Nat.zero_add])))
        refine ⟨(.take 0 (.take 1 (.take 2 (.take 3 (.take 4 (.take 5 (.take 6 (.take 7 (.take 8 (.ev (.cons 9 [] (.take 10 (.ev (.cons 11 [] (.done) (.nil)))) (.nil)))))))))))), ⟨by kernel_rfl, by kernel_rfl, by kernel_rfl⟩, .go ?_⟩
        (conv => whnf)
        (try simp only [hm, Nat.zero_add])
        repeat (first | (refine V.s1 ?_; (try simp only [hm, Nat.zero_add])) | ((with_reducible refine recheck_and ?_ ?_); (focus ((conv => whnf); (try simp only [hm, Nat.zero_add]); (repeat (refine V.s1 ?_; (try simp only [hm, Nat.zero_add]))); exact ⟨rfl⟩)); (conv => whnf); (try simp only [hm, Nat.zero_add])))
        try refine And.intro (fun _ => ⟨trivial, by simp; omega⟩) ?_
        have hmin : (min ((dbl dt (j + 1)).length : Int) 4096).toNat = min (dbl dt (j + 1)).length 4096 := by omega
        have hA2 : dbl dt (j + 1) ++ List.take (min (dbl dt (j + 1)).length 4096) (dbl dt (j + 1)) = dbl dt (j + 1 + 1) := rfl
        have hAl : (dbl dt (j + 1)).length + (List.take (min (dbl dt (j + 1)).length 4096) (dbl dt (j + 1))).length = (dbl dt (j + 1 + 1)).length := by rw [← hA2, List.length_append]
        have hS : [2] ++ (List.replicate (j + 1) 2 ++ st) = List.replicate (j + 1 + 1) 2 ++ st := rfl
        have hSl : 1 + (List.replicate (j + 1) 2 ++ st).length = (List.replicate (j + 1 + 1) 2 ++ st).length := by simp only [List.length_append, List.length_replicate] <;> omega
        (conv => whnf)
        (try simp only [hm, List.drop_zero, List.take_length, hmin, hA2, hAl, hS, hSl])
        repeat (first | (refine V.s1 ?_; (try simp only [hm, List.drop_zero, List.take_length, hmin, hA2, hAl, hS, hSl])) | ((with_reducible refine recheck_and ?_ ?_); (focus ((conv => whnf); (try simp only [hm, List.drop_zero, List.take_length, hmin, hA2, hAl, hS, hSl]); (repeat (refine V.s1 ?_; (try simp only [hm, List.drop_zero, List.take_length, hmin, hA2, hAl, hS, hSl]))); exact ⟨rfl⟩)); (conv => whnf); (try simp only [hm, List.drop_zero, List.take_length, hmin, hA2, hAl, hS, hSl])))
        exact ⟨j + 1 + 1, hj1, by omega, V.wk⟩
      · rw [decide_eq_false_iff_not] at hq
        have hj1 : (j + 1) = k := by simp at hq; omega
        subst hj1
        (conv => whnf)
        (try simp only [hm])
        repeat (first | (refine V.s1 ?_; (try simp only [hm])) | ((with_reducible refine recheck_and ?_ ?_); (focus ((conv => whnf); (try simp only [hm]); (repeat (refine V.s1 ?_; (try simp only [hm]))); exact ⟨rfl⟩)); (conv => whnf); (try simp only [hm])))
        simp only [List.take_length]
        exact Fin.of rfl
  · (conv => whnf)
    (try simp only [hm])
    repeat (first | (refine V.s1 ?_; (try simp only [hm])) | ((with_reducible refine recheck_and ?_ ?_); (focus ((conv => whnf); (try simp only [hm]); (repeat (refine V.s1 ?_; (try simp only [hm]))); exact ⟨rfl⟩)); (conv => whnf); (try simp only [hm])))
    simp only [List.take_length]
    exact Fin.of rfl
end Go.Proofs.Ytfhmfpneiagakaa
