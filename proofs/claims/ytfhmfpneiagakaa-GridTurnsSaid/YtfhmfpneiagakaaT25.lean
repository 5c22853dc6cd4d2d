/- What some functions of the program answer at values that mean given lists and numbers, each proved of the program's own code. Conditions: those that each theorem names. -/
import Derived.Test.YtfhmfpneiagakaaT23
import Derived.Test.YtfhmfpneiagakaaT19
import Derived.Test.YtfhmfpneiagakaaT6
set_option linter.unusedSimpArgs false
set_option linter.unusedVariables false
set_option maxHeartbeats 8000000
set_option maxRecDepth 100000
namespace Go.Proofs.Ytfhmfpneiagakaa
open Go Go.V Go.Gr
def near4D (x0 x1 x2 x3 : Int) : D := .agg [.int .u8 x0, .int .u8 x1, .int .u8 x2, .int .u8 x3]
theorem near_bd {x0 x1 x2 x3 : Int} (h0 : 0 ≤ x0 ∧ x0 ≤ 255) (h1 : 0 ≤ x1 ∧ x1 ≤ 255) (h2 : 0 ≤ x2 ∧ x2 ≤ 255) (h3 : 0 ≤ x3 ∧ x3 ≤ 255) (i : Nat) : 0 ≤ [x0, x1, x2, x3].getD i 0 ∧ [x0, x1, x2, x3].getD i 0 ≤ 255 := by
  match i with
  | 0 => exact h0
  | 1 => exact h1
  | 2 => exact h2
  | 3 => exact h3
  | i + 4 => simp
def plR (s : List Int) (o : Int) (d xs : List Int) : Int := if okGrid s o d && okIdx s xs then pz (s.zip xs) * o else 0
def plE (s : List Int) (o : Int) (d xs : List Int) : Int := if okGrid s o d then (if okIdx s xs then 0 else 2) else 100
def atR (s : List Int) (o : Int) (d xs : List Int) : List Int := if okGrid s o d && okIdx s xs then slot d (pz (s.zip xs) * o) o else []
theorem atR_len (s : List Int) (o : Int) (d xs : List Int) : (atR s o d xs).length ≤ 4 := by
  unfold atR
  split
  · rename_i h
    rw [Bool.and_eq_true] at h
    have hG := okGrid_iff h.1
    simp [slot]
    omega
  · simp
theorem places_c (size : List Int) (out : Int) (data : List Int) (ds : List Int) (o : Int) (vals : List Int) (sm : Bool) (w0 a0 n0 w1 a1 n1 : Int) (idx : List Int) (x0 x1 x2 x3 : Int)
    (hs : size.length ≤ 281474976710656) (hda : data.length ≤ 281474976710656)
    (hd : ∀ v ∈ ds, 0 ≤ v ∧ v ≤ 255) (hdl : ds.length ≤ 281474976710656) (ho : 0 ≤ o ∧ o ≤ 255) (hv : ∀ v ∈ vals, 0 ≤ v ∧ v ≤ 65535) (hvl : vals.length ≤ 281474976710656)
    (hw0 : 0 ≤ w0 ∧ w0 ≤ 255) (ha0 : 0 ≤ a0 ∧ a0 ≤ 255) (hw1 : 0 ≤ w1 ∧ w1 ≤ 255) (ha1 : 0 ≤ a1 ∧ a1 ≤ 255) (hix : idx.length ≤ 281474976710656)
    (hx0 : 0 ≤ x0 ∧ x0 ≤ 255) (hx1 : 0 ≤ x1 ∧ x1 ≤ 255) (hx2 : 0 ≤ x2 ∧ x2 ≤ 255) (hx3 : 0 ≤ x3 ∧ x3 ≤ 255) :
    Called Try.prog 3 [gridD size out data, draftD ds o vals sm, bendsD w0 a0 n0 w1 a1 n1, .ints .i64 idx, near4D x0 x1 x2 x3] (.bool true) := by
  obtain ⟨s0, o0, d0, s1, o1, d1, s2, o2, d2, s3, o3, d3, c4, ⟨b0, e0⟩, ⟨b1, e1⟩, ⟨b2, e2⟩, b3, e3⟩ := four_c size out data ds o vals sm w0 a0 n0 w1 a1 n1 hs hda hd hdl ho hv hvl hw0 ha0 hw1 ha1
  have hN := near_bd hx0 hx1 hx2 hx3
  refine called_of_run tbOk 6 ⟨Try.func3, rfl, rfl, Nat.le_of_ble_eq_true rfl⟩ ?_
  (conv => whnf)
  refine V.st ?_
  repeat ((try ((with_reducible refine .ext ?_); (conv => whnf))); (with_reducible refine call_intro (r := ?_) ?_ ?_); rotate_left; (focus (first | exact (wakes_c) | exact (c4))); (conv => whnf); refine V.st ?_)
  have hil : (idx.take (min (idx.length : Int) 6).toNat).length ≤ 6 := by simp; omega
  generalize idx.take (min (idx.length : Int) 6).toNat = ix at *
  refine lp_go (4) (fun k => True) (fun k => [(37, .int .i64 k)]) (fun k => []) V.wk ?_ ?_
  · trivial
  intro k hk _
  have hk2 : k = 4 ∨ k = 0 ∨ k = 1 ∨ k = 2 ∨ k = 3 := by omega
  rcases hk2 with rfl | rfl | rfl | rfl | rfl
  · (conv => whnf)
    refine V.st ?_
    exact Fin.of rfl
  · have hP : ∀ xs : List Int, xs.length ≤ 100 → Called Try.prog 13 [gridD s0 o0 d0, .ints .i64 xs] (.tup [.int .i64 (plR s0 o0 d0 xs), .int .i64 (plE s0 o0 d0 xs)]) := fun xs hx => gplace_c s0 o0 d0 xs (by omega) (by omega) (by omega)
    have hQ : ∀ xs : List Int, xs.length ≤ 100 → Called Try.prog 14 [gridD s0 o0 d0, .ints .i64 xs] (.tup [.int .i64 (plR s0 o0 d0 xs), .int .i64 (plE s0 o0 d0 xs)]) := fun xs hx => rPlace_c s0 o0 d0 xs (by omega) (by omega) (by omega)
    have hR : ∀ xs : List Int, xs.length ≤ 100 → Called Try.prog 15 [gridD s0 o0 d0, .ints .i64 xs] (.tup [.ints .i64 (atR s0 o0 d0 xs), .int .i64 (plE s0 o0 d0 xs)]) := fun xs hx => gat_c s0 o0 d0 xs (by omega) (by omega) (by omega)
    have hT : ∀ xs : List Int, xs.length ≤ 100 → Called Try.prog 16 [gridD s0 o0 d0, .ints .i64 xs] (.tup [.ints .i64 (atR s0 o0 d0 xs), .int .i64 (plE s0 o0 d0 xs)]) := fun xs hx => rAt_c s0 o0 d0 xs (by omega) (by omega) (by omega)
    have fN : FinL [gridD s0 o0 d0, .ints .i64 []] [gridD s0 o0 d0, .nil] := ⟨Fin.same _, Fin.nil _, trivial⟩
    have hP2 := Called.arg fN (hP [] (by simp))
    have hQ2 := Called.arg fN (hQ [] (by simp))
    have hR2 := Called.arg fN (hR [] (by simp))
    have hT2 := Called.arg fN (hT [] (by simp))
    have hE : ∀ xs, Called Try.prog 17 [.ints .i64 (atR s0 o0 d0 xs), .ints .i64 (atR s0 o0 d0 xs)] (.bool true) := fun xs => by
      have := atR_len s0 o0 d0 xs
      exact Called.cast (equal_c _ _ (by omega) (by omega)) (by simp)
    (conv => whnf)
    refine V.st ?_
    have hz4 : (List.take (min (s0.length : Int) 4).toNat s0).length ≤ 4 := by simp; omega
    generalize List.take (min (s0.length : Int) 4).toNat s0 = sz at *
    refine lp_any ([] : List Int) (fun xs => xs.length ≤ sz.length) (fun xs => sz.length - xs.length) (fun xs => match xs with | [] => [(48, .int .i64 (([] : List Int).length : Nat)), (13, .nil)] | y :: r => [(48, .int .i64 ((y :: r).length : Nat)), (13, .osl 64 0 (y :: r).length)]) (fun xs => match xs with | [] => [] | y :: r => [(64, .arr .i64 (y :: r))]) ?_ (Nat.zero_le _) ?_
    · exact V.wk
    intro xs hxs
    cases xs with
    | nil =>
      (conv => whnf)
      refine V.st ?_
      refine Cnd.split (CondB.mk (fun hq => ?_) (fun hq => ?_))
      · rw [decide_eq_true_eq] at hq
        have hn := hN 0
        (conv => whnf)
        (try simp only [Nat.zero_add, Int.toNat_natCast, List.length_nil])
        repeat (first | (refine V.s1 ?_; (try simp only [Nat.zero_add, Int.toNat_natCast, List.length_nil])) | ((with_reducible refine recheck_and ?_ ?_); (focus ((conv => whnf); (try simp only [Nat.zero_add, Int.toNat_natCast, List.length_nil]); (repeat (refine V.s1 ?_; (try simp only [Nat.zero_add, Int.toNat_natCast, List.length_nil]))); exact ⟨rfl⟩)); (conv => whnf); (try simp only [Nat.zero_add, Int.toNat_natCast, List.length_nil])))
        generalize [x0, x1, x2, x3].getD 0 0 % max 1 (min (sz.getD 0 0) 300 + 1) = e at *
        exact ⟨[e], by simp at hq ⊢; omega, by simp at hq ⊢; omega, V.wk⟩
      · (conv => whnf)
        refine V.st ?_
        refine .inl ?_
        (conv => whnf)
        refine ⟨0, _, _, ⟨Try.func12, rfl, rfl, Nat.le_of_ble_eq_true rfl⟩, ?_⟩
        (conv => whnf)
        (conv => whnf)
        refine V.st ?_
        refine Lp.pub 71 ?_
        (conv => whnf)
        refine lp_go (3) (fun k => True) (fun k => [(73, .int .i64 k)]) (fun k => []) V.wk ?_ ?_
        · trivial
        intro k hk _
        have hk2 : k = 3 ∨ k = 0 ∨ k = 1 ∨ k = 2 := by omega
        rcases hk2 with rfl | rfl | rfl | rfl
        · (conv => whnf)
          refine V.st ?_
          first | exact ⟨1, ⟨by omega, trivial⟩, by omega, V.wk⟩ | exact ⟨2, ⟨by omega, trivial⟩, by omega, V.wk⟩ | exact ⟨3, ⟨by omega, trivial⟩, by omega, V.wk⟩ | exact ⟨4, ⟨by omega, trivial⟩, by omega, V.wk⟩
        all_goals
          (conv => whnf)
          refine V.st ?_
          repeat ((try ((with_reducible refine .ext ?_); (conv => whnf))); (with_reducible refine call_intro (r := ?_) ?_ ?_); rotate_left; (focus (first | exact (hE _) | exact (hP2) | exact (hQ2) | exact (hR2) | exact (hT2) | (refine hP _ ?_; simp at *; omega) | (refine hQ _ ?_; simp at *; omega) | (refine hR _ ?_; simp at *; omega) | (refine hT _ ?_; simp at *; omega))); (conv => whnf); refine V.st ?_)
          refine Cnd.split (CondB.mk (fun hb => ?_) (fun hb => ?_))
          · simp at hb
          (conv => whnf)
          refine V.st ?_
          first | exact ⟨1, ⟨by omega, trivial⟩, by omega, V.wk⟩ | exact ⟨2, ⟨by omega, trivial⟩, by omega, V.wk⟩ | exact ⟨3, ⟨by omega, trivial⟩, by omega, V.wk⟩
    | cons y r =>
      (conv => whnf)
      refine V.st ?_
      refine Cnd.split (CondB.mk (fun hq => ?_) (fun hq => ?_))
      · rw [decide_eq_true_eq] at hq
        have hn := hN (y :: r).length
        (conv => whnf)
        (try simp only [Nat.zero_add, Int.toNat_natCast])
        repeat (first | (refine V.s1 ?_; (try simp only [Nat.zero_add, Int.toNat_natCast])) | ((with_reducible refine recheck_and ?_ ?_); (focus ((conv => whnf); (try simp only [Nat.zero_add, Int.toNat_natCast]); (repeat (refine V.s1 ?_; (try simp only [Nat.zero_add, Int.toNat_natCast]))); exact ⟨rfl⟩)); (conv => whnf); (try simp only [Nat.zero_add, Int.toNat_natCast])))
        generalize [x0, x1, x2, x3].getD (y :: r).length 0 % max 1 (min (sz.getD (y :: r).length 0) 300 + 1) = e at *
        have hl1 : (((y :: r).length : Nat) : Int) + 1 = ((y :: (r ++ [e])).length : Nat) := by simp
        have hl2 : (y :: r).length + (List.take 1 (List.drop 0 [e])).length = (y :: (r ++ [e])).length := by simp
        try refine And.intro (fun _ => ⟨trivial, by simp at hxs ⊢; omega⟩) ?_
        (conv => whnf)
        (try simp only [hl1, hl2])
        repeat (first | (refine V.s1 ?_; (try simp only [hl1, hl2])) | ((with_reducible refine recheck_and ?_ ?_); (focus ((conv => whnf); (try simp only [hl1, hl2]); (repeat (refine V.s1 ?_; (try simp only [hl1, hl2]))); exact ⟨rfl⟩)); (conv => whnf); (try simp only [hl1, hl2])))
        exact ⟨y :: (r ++ [e]), by simp at hq ⊢; omega, by simp at hq ⊢; omega, V.wk⟩
      · (conv => whnf)
        refine V.st ?_
        refine .inl ?_
        (conv => whnf)
        refine ⟨0, _, _, ⟨Try.func12, rfl, rfl, Nat.le_of_ble_eq_true rfl⟩, ?_⟩
        (conv => whnf)
        (conv => whnf)
        refine V.st ?_
        try refine And.intro (fun _ => ⟨rfl, by simp at hxs ⊢; omega⟩) ?_
        (conv => whnf)
        (try simp only [List.nil_append, List.drop_zero, List.take_length, Nat.zero_add])
        repeat (first | (refine V.s1 ?_; (try simp only [List.nil_append, List.drop_zero, List.take_length, Nat.zero_add])) | ((with_reducible refine recheck_and ?_ ?_); (focus ((conv => whnf); (try simp only [List.nil_append, List.drop_zero, List.take_length, Nat.zero_add]); (repeat (refine V.s1 ?_; (try simp only [List.nil_append, List.drop_zero, List.take_length, Nat.zero_add]))); exact ⟨rfl⟩)); (conv => whnf); (try simp only [List.nil_append, List.drop_zero, List.take_length, Nat.zero_add])))
        try refine And.intro (fun _ => ⟨trivial, by simp at hxs ⊢; omega⟩) ?_
        (conv => whnf)
        (try simp only [List.nil_append, List.drop_zero, List.take_length, Nat.zero_add])
        repeat (first | (refine V.s1 ?_; (try simp only [List.nil_append, List.drop_zero, List.take_length, Nat.zero_add])) | ((with_reducible refine recheck_and ?_ ?_); (focus ((conv => whnf); (try simp only [List.nil_append, List.drop_zero, List.take_length, Nat.zero_add]); (repeat (refine V.s1 ?_; (try simp only [List.nil_append, List.drop_zero, List.take_length, Nat.zero_add]))); exact ⟨rfl⟩)); (conv => whnf); (try simp only [List.nil_append, List.drop_zero, List.take_length, Nat.zero_add])))
        refine Lp.pub 64 ?_
        (conv => whnf)
        refine Lp.pub 71 ?_
        (conv => whnf)
        refine lp_go (3) (fun k => True) (fun k => [(73, .int .i64 k)]) (fun k => []) V.wk ?_ ?_
        · trivial
        intro k hk _
        have hk2 : k = 3 ∨ k = 0 ∨ k = 1 ∨ k = 2 := by omega
        rcases hk2 with rfl | rfl | rfl | rfl
        · (conv => whnf)
          refine V.st ?_
          first | exact ⟨1, ⟨by omega, trivial⟩, by omega, V.wk⟩ | exact ⟨2, ⟨by omega, trivial⟩, by omega, V.wk⟩ | exact ⟨3, ⟨by omega, trivial⟩, by omega, V.wk⟩ | exact ⟨4, ⟨by omega, trivial⟩, by omega, V.wk⟩
        all_goals
          (conv => whnf)
          refine V.st ?_
          repeat ((try ((with_reducible refine .ext ?_); (conv => whnf))); (with_reducible refine call_intro (r := ?_) ?_ ?_); rotate_left; (focus (first | exact (hE _) | exact (hP2) | exact (hQ2) | exact (hR2) | exact (hT2) | (refine hP _ ?_; simp at *; omega) | (refine hQ _ ?_; simp at *; omega) | (refine hR _ ?_; simp at *; omega) | (refine hT _ ?_; simp at *; omega))); (conv => whnf); refine V.st ?_)
          refine Cnd.split (CondB.mk (fun hb => ?_) (fun hb => ?_))
          · simp at hb
          (conv => whnf)
          refine V.st ?_
          first | exact ⟨1, ⟨by omega, trivial⟩, by omega, V.wk⟩ | exact ⟨2, ⟨by omega, trivial⟩, by omega, V.wk⟩ | exact ⟨3, ⟨by omega, trivial⟩, by omega, V.wk⟩
  · have hP : ∀ xs : List Int, xs.length ≤ 100 → Called Try.prog 13 [gridD s1 o1 d1, .ints .i64 xs] (.tup [.int .i64 (plR s1 o1 d1 xs), .int .i64 (plE s1 o1 d1 xs)]) := fun xs hx => gplace_c s1 o1 d1 xs (by omega) (by omega) (by omega)
    have hQ : ∀ xs : List Int, xs.length ≤ 100 → Called Try.prog 14 [gridD s1 o1 d1, .ints .i64 xs] (.tup [.int .i64 (plR s1 o1 d1 xs), .int .i64 (plE s1 o1 d1 xs)]) := fun xs hx => rPlace_c s1 o1 d1 xs (by omega) (by omega) (by omega)
    have hR : ∀ xs : List Int, xs.length ≤ 100 → Called Try.prog 15 [gridD s1 o1 d1, .ints .i64 xs] (.tup [.ints .i64 (atR s1 o1 d1 xs), .int .i64 (plE s1 o1 d1 xs)]) := fun xs hx => gat_c s1 o1 d1 xs (by omega) (by omega) (by omega)
    have hT : ∀ xs : List Int, xs.length ≤ 100 → Called Try.prog 16 [gridD s1 o1 d1, .ints .i64 xs] (.tup [.ints .i64 (atR s1 o1 d1 xs), .int .i64 (plE s1 o1 d1 xs)]) := fun xs hx => rAt_c s1 o1 d1 xs (by omega) (by omega) (by omega)
    have fN : FinL [gridD s1 o1 d1, .ints .i64 []] [gridD s1 o1 d1, .nil] := ⟨Fin.same _, Fin.nil _, trivial⟩
    have hP2 := Called.arg fN (hP [] (by simp))
    have hQ2 := Called.arg fN (hQ [] (by simp))
    have hR2 := Called.arg fN (hR [] (by simp))
    have hT2 := Called.arg fN (hT [] (by simp))
    have hE : ∀ xs, Called Try.prog 17 [.ints .i64 (atR s1 o1 d1 xs), .ints .i64 (atR s1 o1 d1 xs)] (.bool true) := fun xs => by
      have := atR_len s1 o1 d1 xs
      exact Called.cast (equal_c _ _ (by omega) (by omega)) (by simp)
    (conv => whnf)
    refine V.st ?_
    have hz4 : (List.take (min (s1.length : Int) 4).toNat s1).length ≤ 4 := by simp; omega
    generalize List.take (min (s1.length : Int) 4).toNat s1 = sz at *
    refine lp_any ([] : List Int) (fun xs => xs.length ≤ sz.length) (fun xs => sz.length - xs.length) (fun xs => match xs with | [] => [(48, .int .i64 (([] : List Int).length : Nat)), (13, .nil)] | y :: r => [(48, .int .i64 ((y :: r).length : Nat)), (13, .osl 64 0 (y :: r).length)]) (fun xs => match xs with | [] => [] | y :: r => [(64, .arr .i64 (y :: r))]) ?_ (Nat.zero_le _) ?_
    · exact V.wk
    intro xs hxs
    cases xs with
    | nil =>
      (conv => whnf)
      refine V.st ?_
      refine Cnd.split (CondB.mk (fun hq => ?_) (fun hq => ?_))
      · rw [decide_eq_true_eq] at hq
        have hn := hN 0
        (conv => whnf)
        (try simp only [Nat.zero_add, Int.toNat_natCast, List.length_nil])
        repeat (first | (refine V.s1 ?_; (try simp only [Nat.zero_add, Int.toNat_natCast, List.length_nil])) | ((with_reducible refine recheck_and ?_ ?_); (focus ((conv => whnf); (try simp only [Nat.zero_add, Int.toNat_natCast, List.length_nil]); (repeat (refine V.s1 ?_; (try simp only [Nat.zero_add, Int.toNat_natCast, List.length_nil]))); exact ⟨rfl⟩)); (conv => whnf); (try simp only [Nat.zero_add, Int.toNat_natCast, List.length_nil])))
        generalize [x0, x1, x2, x3].getD 0 0 % max 1 (min (sz.getD 0 0) 300 + 1) = e at *
        exact ⟨[e], by simp at hq ⊢; omega, by simp at hq ⊢; omega, V.wk⟩
      · (conv => whnf)
        refine V.st ?_
        refine .inl ?_
        (conv => whnf)
        refine ⟨0, _, _, ⟨Try.func12, rfl, rfl, Nat.le_of_ble_eq_true rfl⟩, ?_⟩
        (conv => whnf)
        (conv => whnf)
        refine V.st ?_
        refine Lp.pub 71 ?_
        (conv => whnf)
        refine lp_go (3) (fun k => True) (fun k => [(73, .int .i64 k)]) (fun k => []) V.wk ?_ ?_
        · trivial
        intro k hk _
        have hk2 : k = 3 ∨ k = 0 ∨ k = 1 ∨ k = 2 := by omega
        rcases hk2 with rfl | rfl | rfl | rfl
        · (conv => whnf)
          refine V.st ?_
          first | exact ⟨1, ⟨by omega, trivial⟩, by omega, V.wk⟩ | exact ⟨2, ⟨by omega, trivial⟩, by omega, V.wk⟩ | exact ⟨3, ⟨by omega, trivial⟩, by omega, V.wk⟩ | exact ⟨4, ⟨by omega, trivial⟩, by omega, V.wk⟩
        all_goals
          (conv => whnf)
          refine V.st ?_
          repeat ((try ((with_reducible refine .ext ?_); (conv => whnf))); (with_reducible refine call_intro (r := ?_) ?_ ?_); rotate_left; (focus (first | exact (hE _) | exact (hP2) | exact (hQ2) | exact (hR2) | exact (hT2) | (refine hP _ ?_; simp at *; omega) | (refine hQ _ ?_; simp at *; omega) | (refine hR _ ?_; simp at *; omega) | (refine hT _ ?_; simp at *; omega))); (conv => whnf); refine V.st ?_)
          refine Cnd.split (CondB.mk (fun hb => ?_) (fun hb => ?_))
          · simp at hb
          (conv => whnf)
          refine V.st ?_
          first | exact ⟨1, ⟨by omega, trivial⟩, by omega, V.wk⟩ | exact ⟨2, ⟨by omega, trivial⟩, by omega, V.wk⟩ | exact ⟨3, ⟨by omega, trivial⟩, by omega, V.wk⟩
    | cons y r =>
      (conv => whnf)
      refine V.st ?_
      refine Cnd.split (CondB.mk (fun hq => ?_) (fun hq => ?_))
      · rw [decide_eq_true_eq] at hq
        have hn := hN (y :: r).length
        (conv => whnf)
        (try simp only [Nat.zero_add, Int.toNat_natCast])
        repeat (first | (refine V.s1 ?_; (try simp only [Nat.zero_add, Int.toNat_natCast])) | ((with_reducible refine recheck_and ?_ ?_); (focus ((conv => whnf); (try simp only [Nat.zero_add, Int.toNat_natCast]); (repeat (refine V.s1 ?_; (try simp only [Nat.zero_add, Int.toNat_natCast]))); exact ⟨rfl⟩)); (conv => whnf); (try simp only [Nat.zero_add, Int.toNat_natCast])))
        generalize [x0, x1, x2, x3].getD (y :: r).length 0 % max 1 (min (sz.getD (y :: r).length 0) 300 + 1) = e at *
        have hl1 : (((y :: r).length : Nat) : Int) + 1 = ((y :: (r ++ [e])).length : Nat) := by simp
        have hl2 : (y :: r).length + (List.take 1 (List.drop 0 [e])).length = (y :: (r ++ [e])).length := by simp
        try refine And.intro (fun _ => ⟨trivial, by simp at hxs ⊢; omega⟩) ?_
        (conv => whnf)
        (try simp only [hl1, hl2])
        repeat (first | (refine V.s1 ?_; (try simp only [hl1, hl2])) | ((with_reducible refine recheck_and ?_ ?_); (focus ((conv => whnf); (try simp only [hl1, hl2]); (repeat (refine V.s1 ?_; (try simp only [hl1, hl2]))); exact ⟨rfl⟩)); (conv => whnf); (try simp only [hl1, hl2])))
        exact ⟨y :: (r ++ [e]), by simp at hq ⊢; omega, by simp at hq ⊢; omega, V.wk⟩
      · (conv => whnf)
        refine V.st ?_
        refine .inl ?_
        (conv => whnf)
        refine ⟨0, _, _, ⟨Try.func12, rfl, rfl, Nat.le_of_ble_eq_true rfl⟩, ?_⟩
        (conv => whnf)
        (conv => whnf)
        refine V.st ?_
        try refine And.intro (fun _ => ⟨rfl, by simp at hxs ⊢; omega⟩) ?_
        (conv => whnf)
        (try simp only [List.nil_append, List.drop_zero, List.take_length, Nat.zero_add])
        repeat (first | (refine V.s1 ?_; (try simp only [List.nil_append, List.drop_zero, List.take_length, Nat.zero_add])) | ((with_reducible refine recheck_and ?_ ?_); (focus ((conv => whnf); (try simp only [List.nil_append, List.drop_zero, List.take_length, Nat.zero_add]); (repeat (refine V.s1 ?_; (try simp only [List.nil_append, List.drop_zero, List.take_length, Nat.zero_add]))); exact ⟨rfl⟩)); (conv => whnf); (try simp only [List.nil_append, List.drop_zero, List.take_length, Nat.zero_add])))
        try refine And.intro (fun _ => ⟨trivial, by simp at hxs ⊢; omega⟩) ?_
        (conv => whnf)
        (try simp only [List.nil_append, List.drop_zero, List.take_length, Nat.zero_add])
        repeat (first | (refine V.s1 ?_; (try simp only [List.nil_append, List.drop_zero, List.take_length, Nat.zero_add])) | ((with_reducible refine recheck_and ?_ ?_); (focus ((conv => whnf); (try simp only [List.nil_append, List.drop_zero, List.take_length, Nat.zero_add]); (repeat (refine V.s1 ?_; (try simp only [List.nil_append, List.drop_zero, List.take_length, Nat.zero_add]))); exact ⟨rfl⟩)); (conv => whnf); (try simp only [List.nil_append, List.drop_zero, List.take_length, Nat.zero_add])))
        refine Lp.pub 64 ?_
        (conv => whnf)
        refine Lp.pub 71 ?_
        (conv => whnf)
        refine lp_go (3) (fun k => True) (fun k => [(73, .int .i64 k)]) (fun k => []) V.wk ?_ ?_
        · trivial
        intro k hk _
        have hk2 : k = 3 ∨ k = 0 ∨ k = 1 ∨ k = 2 := by omega
        rcases hk2 with rfl | rfl | rfl | rfl
        · (conv => whnf)
          refine V.st ?_
          first | exact ⟨1, ⟨by omega, trivial⟩, by omega, V.wk⟩ | exact ⟨2, ⟨by omega, trivial⟩, by omega, V.wk⟩ | exact ⟨3, ⟨by omega, trivial⟩, by omega, V.wk⟩ | exact ⟨4, ⟨by omega, trivial⟩, by omega, V.wk⟩
        all_goals
          (conv => whnf)
          refine V.st ?_
          repeat ((try ((with_reducible refine .ext ?_); (conv => whnf))); (with_reducible refine call_intro (r := ?_) ?_ ?_); rotate_left; (focus (first | exact (hE _) | exact (hP2) | exact (hQ2) | exact (hR2) | exact (hT2) | (refine hP _ ?_; simp at *; omega) | (refine hQ _ ?_; simp at *; omega) | (refine hR _ ?_; simp at *; omega) | (refine hT _ ?_; simp at *; omega))); (conv => whnf); refine V.st ?_)
          refine Cnd.split (CondB.mk (fun hb => ?_) (fun hb => ?_))
          · simp at hb
          (conv => whnf)
          refine V.st ?_
          first | exact ⟨1, ⟨by omega, trivial⟩, by omega, V.wk⟩ | exact ⟨2, ⟨by omega, trivial⟩, by omega, V.wk⟩ | exact ⟨3, ⟨by omega, trivial⟩, by omega, V.wk⟩
  · have hP : ∀ xs : List Int, xs.length ≤ 100 → Called Try.prog 13 [gridD s2 o2 d2, .ints .i64 xs] (.tup [.int .i64 (plR s2 o2 d2 xs), .int .i64 (plE s2 o2 d2 xs)]) := fun xs hx => gplace_c s2 o2 d2 xs (by omega) (by omega) (by omega)
    have hQ : ∀ xs : List Int, xs.length ≤ 100 → Called Try.prog 14 [gridD s2 o2 d2, .ints .i64 xs] (.tup [.int .i64 (plR s2 o2 d2 xs), .int .i64 (plE s2 o2 d2 xs)]) := fun xs hx => rPlace_c s2 o2 d2 xs (by omega) (by omega) (by omega)
    have hR : ∀ xs : List Int, xs.length ≤ 100 → Called Try.prog 15 [gridD s2 o2 d2, .ints .i64 xs] (.tup [.ints .i64 (atR s2 o2 d2 xs), .int .i64 (plE s2 o2 d2 xs)]) := fun xs hx => gat_c s2 o2 d2 xs (by omega) (by omega) (by omega)
    have hT : ∀ xs : List Int, xs.length ≤ 100 → Called Try.prog 16 [gridD s2 o2 d2, .ints .i64 xs] (.tup [.ints .i64 (atR s2 o2 d2 xs), .int .i64 (plE s2 o2 d2 xs)]) := fun xs hx => rAt_c s2 o2 d2 xs (by omega) (by omega) (by omega)
    have fN : FinL [gridD s2 o2 d2, .ints .i64 []] [gridD s2 o2 d2, .nil] := ⟨Fin.same _, Fin.nil _, trivial⟩
    have hP2 := Called.arg fN (hP [] (by simp))
    have hQ2 := Called.arg fN (hQ [] (by simp))
    have hR2 := Called.arg fN (hR [] (by simp))
    have hT2 := Called.arg fN (hT [] (by simp))
    have hE : ∀ xs, Called Try.prog 17 [.ints .i64 (atR s2 o2 d2 xs), .ints .i64 (atR s2 o2 d2 xs)] (.bool true) := fun xs => by
      have := atR_len s2 o2 d2 xs
      exact Called.cast (equal_c _ _ (by omega) (by omega)) (by simp)
    (conv => whnf)
    refine V.st ?_
    have hz4 : (List.take (min (s2.length : Int) 4).toNat s2).length ≤ 4 := by simp; omega
    generalize List.take (min (s2.length : Int) 4).toNat s2 = sz at *
    refine lp_any ([] : List Int) (fun xs => xs.length ≤ sz.length) (fun xs => sz.length - xs.length) (fun xs => match xs with | [] => [(48, .int .i64 (([] : List Int).length : Nat)), (13, .nil)] | y :: r => [(48, .int .i64 ((y :: r).length : Nat)), (13, .osl 64 0 (y :: r).length)]) (fun xs => match xs with | [] => [] | y :: r => [(64, .arr .i64 (y :: r))]) ?_ (Nat.zero_le _) ?_
    · exact V.wk
    intro xs hxs
    cases xs with
    | nil =>
      (conv => whnf)
      refine V.st ?_
      refine Cnd.split (CondB.mk (fun hq => ?_) (fun hq => ?_))
      · rw [decide_eq_true_eq] at hq
        have hn := hN 0
        (conv => whnf)
        (try simp only [Nat.zero_add, Int.toNat_natCast, List.length_nil])
        repeat (first | (refine V.s1 ?_; (try simp only [Nat.zero_add, Int.toNat_natCast, List.length_nil])) | ((with_reducible refine recheck_and ?_ ?_); (focus ((conv => whnf); (try simp only [Nat.zero_add, Int.toNat_natCast, List.length_nil]); (repeat (refine V.s1 ?_; (try simp only [Nat.zero_add, Int.toNat_natCast, List.length_nil]))); exact ⟨rfl⟩)); (conv => whnf); (try simp only [Nat.zero_add, Int.toNat_natCast, List.length_nil])))
        generalize [x0, x1, x2, x3].getD 0 0 % max 1 (min (sz.getD 0 0) 300 + 1) = e at *
        exact ⟨[e], by simp at hq ⊢; omega, by simp at hq ⊢; omega, V.wk⟩
      · (conv => whnf)
        refine V.st ?_
        refine .inl ?_
        (conv => whnf)
        refine ⟨0, _, _, ⟨Try.func12, rfl, rfl, Nat.le_of_ble_eq_true rfl⟩, ?_⟩
        (conv => whnf)
        (conv => whnf)
        refine V.st ?_
        refine Lp.pub 71 ?_
        (conv => whnf)
        refine lp_go (3) (fun k => True) (fun k => [(73, .int .i64 k)]) (fun k => []) V.wk ?_ ?_
        · trivial
        intro k hk _
        have hk2 : k = 3 ∨ k = 0 ∨ k = 1 ∨ k = 2 := by omega
        rcases hk2 with rfl | rfl | rfl | rfl
        · (conv => whnf)
          refine V.st ?_
          first | exact ⟨1, ⟨by omega, trivial⟩, by omega, V.wk⟩ | exact ⟨2, ⟨by omega, trivial⟩, by omega, V.wk⟩ | exact ⟨3, ⟨by omega, trivial⟩, by omega, V.wk⟩ | exact ⟨4, ⟨by omega, trivial⟩, by omega, V.wk⟩
        all_goals
          (conv => whnf)
          refine V.st ?_
          repeat ((try ((with_reducible refine .ext ?_); (conv => whnf))); (with_reducible refine call_intro (r := ?_) ?_ ?_); rotate_left; (focus (first | exact (hE _) | exact (hP2) | exact (hQ2) | exact (hR2) | exact (hT2) | (refine hP _ ?_; simp at *; omega) | (refine hQ _ ?_; simp at *; omega) | (refine hR _ ?_; simp at *; omega) | (refine hT _ ?_; simp at *; omega))); (conv => whnf); refine V.st ?_)
          refine Cnd.split (CondB.mk (fun hb => ?_) (fun hb => ?_))
          · simp at hb
          (conv => whnf)
          refine V.st ?_
          first | exact ⟨1, ⟨by omega, trivial⟩, by omega, V.wk⟩ | exact ⟨2, ⟨by omega, trivial⟩, by omega, V.wk⟩ | exact ⟨3, ⟨by omega, trivial⟩, by omega, V.wk⟩
    | cons y r =>
      (conv => whnf)
      refine V.st ?_
      refine Cnd.split (CondB.mk (fun hq => ?_) (fun hq => ?_))
      · rw [decide_eq_true_eq] at hq
        have hn := hN (y :: r).length
        (conv => whnf)
        (try simp only [Nat.zero_add, Int.toNat_natCast])
        repeat (first | (refine V.s1 ?_; (try simp only [Nat.zero_add, Int.toNat_natCast])) | ((with_reducible refine recheck_and ?_ ?_); (focus ((conv => whnf); (try simp only [Nat.zero_add, Int.toNat_natCast]); (repeat (refine V.s1 ?_; (try simp only [Nat.zero_add, Int.toNat_natCast]))); exact ⟨rfl⟩)); (conv => whnf); (try simp only [Nat.zero_add, Int.toNat_natCast])))
        generalize [x0, x1, x2, x3].getD (y :: r).length 0 % max 1 (min (sz.getD (y :: r).length 0) 300 + 1) = e at *
        have hl1 : (((y :: r).length : Nat) : Int) + 1 = ((y :: (r ++ [e])).length : Nat) := by simp
        have hl2 : (y :: r).length + (List.take 1 (List.drop 0 [e])).length = (y :: (r ++ [e])).length := by simp
        try refine And.intro (fun _ => ⟨trivial, by simp at hxs ⊢; omega⟩) ?_
        (conv => whnf)
        (try simp only [hl1, hl2])
        repeat (first | (refine V.s1 ?_; (try simp only [hl1, hl2])) | ((with_reducible refine recheck_and ?_ ?_); (focus ((conv => whnf); (try simp only [hl1, hl2]); (repeat (refine V.s1 ?_; (try simp only [hl1, hl2]))); exact ⟨rfl⟩)); (conv => whnf); (try simp only [hl1, hl2])))
        exact ⟨y :: (r ++ [e]), by simp at hq ⊢; omega, by simp at hq ⊢; omega, V.wk⟩
      · (conv => whnf)
        refine V.st ?_
        refine .inl ?_
        (conv => whnf)
        refine ⟨0, _, _, ⟨Try.func12, rfl, rfl, Nat.le_of_ble_eq_true rfl⟩, ?_⟩
        (conv => whnf)
        (conv => whnf)
        refine V.st ?_
        try refine And.intro (fun _ => ⟨rfl, by simp at hxs ⊢; omega⟩) ?_
        (conv => whnf)
        (try simp only [List.nil_append, List.drop_zero, List.take_length, Nat.zero_add])
        repeat (first | (refine V.s1 ?_; (try simp only [List.nil_append, List.drop_zero, List.take_length, Nat.zero_add])) | ((with_reducible refine recheck_and ?_ ?_); (focus ((conv => whnf); (try simp only [List.nil_append, List.drop_zero, List.take_length, Nat.zero_add]); (repeat (refine V.s1 ?_; (try simp only [List.nil_append, List.drop_zero, List.take_length, Nat.zero_add]))); exact ⟨rfl⟩)); (conv => whnf); (try simp only [List.nil_append, List.drop_zero, List.take_length, Nat.zero_add])))
        try refine And.intro (fun _ => ⟨trivial, by simp at hxs ⊢; omega⟩) ?_
        (conv => whnf)
        (try simp only [List.nil_append, List.drop_zero, List.take_length, Nat.zero_add])
        repeat (first | (refine V.s1 ?_; (try simp only [List.nil_append, List.drop_zero, List.take_length, Nat.zero_add])) | ((with_reducible refine recheck_and ?_ ?_); (focus ((conv => whnf); (try simp only [List.nil_append, List.drop_zero, List.take_length, Nat.zero_add]); (repeat (refine V.s1 ?_; (try simp only [List.nil_append, List.drop_zero, List.take_length, Nat.zero_add]))); exact ⟨rfl⟩)); (conv => whnf); (try simp only [List.nil_append, List.drop_zero, List.take_length, Nat.zero_add])))
        refine Lp.pub 64 ?_
        (conv => whnf)
        refine Lp.pub 71 ?_
        (conv => whnf)
        refine lp_go (3) (fun k => True) (fun k => [(73, .int .i64 k)]) (fun k => []) V.wk ?_ ?_
        · trivial
        intro k hk _
        have hk2 : k = 3 ∨ k = 0 ∨ k = 1 ∨ k = 2 := by omega
        rcases hk2 with rfl | rfl | rfl | rfl
        · (conv => whnf)
          refine V.st ?_
          first | exact ⟨1, ⟨by omega, trivial⟩, by omega, V.wk⟩ | exact ⟨2, ⟨by omega, trivial⟩, by omega, V.wk⟩ | exact ⟨3, ⟨by omega, trivial⟩, by omega, V.wk⟩ | exact ⟨4, ⟨by omega, trivial⟩, by omega, V.wk⟩
        all_goals
          (conv => whnf)
          refine V.st ?_
          repeat ((try ((with_reducible refine .ext ?_); (conv => whnf))); (with_reducible refine call_intro (r := ?_) ?_ ?_); rotate_left; (focus (first | exact (hE _) | exact (hP2) | exact (hQ2) | exact (hR2) | exact (hT2) | (refine hP _ ?_; simp at *; omega) | (refine hQ _ ?_; simp at *; omega) | (refine hR _ ?_; simp at *; omega) | (refine hT _ ?_; simp at *; omega))); (conv => whnf); refine V.st ?_)
          refine Cnd.split (CondB.mk (fun hb => ?_) (fun hb => ?_))
          · simp at hb
          (conv => whnf)
          refine V.st ?_
          first | exact ⟨1, ⟨by omega, trivial⟩, by omega, V.wk⟩ | exact ⟨2, ⟨by omega, trivial⟩, by omega, V.wk⟩ | exact ⟨3, ⟨by omega, trivial⟩, by omega, V.wk⟩
  · have hP : ∀ xs : List Int, xs.length ≤ 100 → Called Try.prog 13 [gridD s3 o3 d3, .ints .i64 xs] (.tup [.int .i64 (plR s3 o3 d3 xs), .int .i64 (plE s3 o3 d3 xs)]) := fun xs hx => gplace_c s3 o3 d3 xs (by omega) (by omega) (by omega)
    have hQ : ∀ xs : List Int, xs.length ≤ 100 → Called Try.prog 14 [gridD s3 o3 d3, .ints .i64 xs] (.tup [.int .i64 (plR s3 o3 d3 xs), .int .i64 (plE s3 o3 d3 xs)]) := fun xs hx => rPlace_c s3 o3 d3 xs (by omega) (by omega) (by omega)
    have hR : ∀ xs : List Int, xs.length ≤ 100 → Called Try.prog 15 [gridD s3 o3 d3, .ints .i64 xs] (.tup [.ints .i64 (atR s3 o3 d3 xs), .int .i64 (plE s3 o3 d3 xs)]) := fun xs hx => gat_c s3 o3 d3 xs (by omega) (by omega) (by omega)
    have hT : ∀ xs : List Int, xs.length ≤ 100 → Called Try.prog 16 [gridD s3 o3 d3, .ints .i64 xs] (.tup [.ints .i64 (atR s3 o3 d3 xs), .int .i64 (plE s3 o3 d3 xs)]) := fun xs hx => rAt_c s3 o3 d3 xs (by omega) (by omega) (by omega)
    have fN : FinL [gridD s3 o3 d3, .ints .i64 []] [gridD s3 o3 d3, .nil] := ⟨Fin.same _, Fin.nil _, trivial⟩
    have hP2 := Called.arg fN (hP [] (by simp))
    have hQ2 := Called.arg fN (hQ [] (by simp))
    have hR2 := Called.arg fN (hR [] (by simp))
    have hT2 := Called.arg fN (hT [] (by simp))
    have hE : ∀ xs, Called Try.prog 17 [.ints .i64 (atR s3 o3 d3 xs), .ints .i64 (atR s3 o3 d3 xs)] (.bool true) := fun xs => by
      have := atR_len s3 o3 d3 xs
      exact Called.cast (equal_c _ _ (by omega) (by omega)) (by simp)
    (conv => whnf)
    refine V.st ?_
    have hz4 : (List.take (min (s3.length : Int) 4).toNat s3).length ≤ 4 := by simp; omega
    generalize List.take (min (s3.length : Int) 4).toNat s3 = sz at *
    refine lp_any ([] : List Int) (fun xs => xs.length ≤ sz.length) (fun xs => sz.length - xs.length) (fun xs => match xs with | [] => [(48, .int .i64 (([] : List Int).length : Nat)), (13, .nil)] | y :: r => [(48, .int .i64 ((y :: r).length : Nat)), (13, .osl 64 0 (y :: r).length)]) (fun xs => match xs with | [] => [] | y :: r => [(64, .arr .i64 (y :: r))]) ?_ (Nat.zero_le _) ?_
    · exact V.wk
    intro xs hxs
    cases xs with
    | nil =>
      (conv => whnf)
      refine V.st ?_
      refine Cnd.split (CondB.mk (fun hq => ?_) (fun hq => ?_))
      · rw [decide_eq_true_eq] at hq
        have hn := hN 0
        (conv => whnf)
        (try simp only [Nat.zero_add, Int.toNat_natCast, List.length_nil])
        repeat (first | (refine V.s1 ?_; (try simp only [Nat.zero_add, Int.toNat_natCast, List.length_nil])) | ((with_reducible refine recheck_and ?_ ?_); (focus ((conv => whnf); (try simp only [Nat.zero_add, Int.toNat_natCast, List.length_nil]); (repeat (refine V.s1 ?_; (try simp only [Nat.zero_add, Int.toNat_natCast, List.length_nil]))); exact ⟨rfl⟩)); (conv => whnf); (try simp only [Nat.zero_add, Int.toNat_natCast, List.length_nil])))
        generalize [x0, x1, x2, x3].getD 0 0 % max 1 (min (sz.getD 0 0) 300 + 1) = e at *
        exact ⟨[e], by simp at hq ⊢; omega, by simp at hq ⊢; omega, V.wk⟩
      · (conv => whnf)
        refine V.st ?_
        refine .inl ?_
        (conv => whnf)
        refine ⟨0, _, _, ⟨Try.func12, rfl, rfl, Nat.le_of_ble_eq_true rfl⟩, ?_⟩
        (conv => whnf)
        (conv => whnf)
        refine V.st ?_
        refine Lp.pub 71 ?_
        (conv => whnf)
        refine lp_go (3) (fun k => True) (fun k => [(73, .int .i64 k)]) (fun k => []) V.wk ?_ ?_
        · trivial
        intro k hk _
        have hk2 : k = 3 ∨ k = 0 ∨ k = 1 ∨ k = 2 := by omega
        rcases hk2 with rfl | rfl | rfl | rfl
        · (conv => whnf)
          refine V.st ?_
          first | exact ⟨1, ⟨by omega, trivial⟩, by omega, V.wk⟩ | exact ⟨2, ⟨by omega, trivial⟩, by omega, V.wk⟩ | exact ⟨3, ⟨by omega, trivial⟩, by omega, V.wk⟩ | exact ⟨4, ⟨by omega, trivial⟩, by omega, V.wk⟩
        all_goals
          (conv => whnf)
          refine V.st ?_
          repeat ((try ((with_reducible refine .ext ?_); (conv => whnf))); (with_reducible refine call_intro (r := ?_) ?_ ?_); rotate_left; (focus (first | exact (hE _) | exact (hP2) | exact (hQ2) | exact (hR2) | exact (hT2) | (refine hP _ ?_; simp at *; omega) | (refine hQ _ ?_; simp at *; omega) | (refine hR _ ?_; simp at *; omega) | (refine hT _ ?_; simp at *; omega))); (conv => whnf); refine V.st ?_)
          refine Cnd.split (CondB.mk (fun hb => ?_) (fun hb => ?_))
          · simp at hb
          (conv => whnf)
          refine V.st ?_
          first | exact ⟨1, ⟨by omega, trivial⟩, by omega, V.wk⟩ | exact ⟨2, ⟨by omega, trivial⟩, by omega, V.wk⟩ | exact ⟨3, ⟨by omega, trivial⟩, by omega, V.wk⟩
    | cons y r =>
      (conv => whnf)
      refine V.st ?_
      refine Cnd.split (CondB.mk (fun hq => ?_) (fun hq => ?_))
      · rw [decide_eq_true_eq] at hq
        have hn := hN (y :: r).length
        (conv => whnf)
        (try simp only [Nat.zero_add, Int.toNat_natCast])
        repeat (first | (refine V.s1 ?_; (try simp only [Nat.zero_add, Int.toNat_natCast])) | ((with_reducible refine recheck_and ?_ ?_); (focus ((conv => whnf); (try simp only [Nat.zero_add, Int.toNat_natCast]); (repeat (refine V.s1 ?_; (try simp only [Nat.zero_add, Int.toNat_natCast]))); exact ⟨rfl⟩)); (conv => whnf); (try simp only [Nat.zero_add, Int.toNat_natCast])))
        generalize [x0, x1, x2, x3].getD (y :: r).length 0 % max 1 (min (sz.getD (y :: r).length 0) 300 + 1) = e at *
        have hl1 : (((y :: r).length : Nat) : Int) + 1 = ((y :: (r ++ [e])).length : Nat) := by simp
        have hl2 : (y :: r).length + (List.take 1 (List.drop 0 [e])).length = (y :: (r ++ [e])).length := by simp
        try refine And.intro (fun _ => ⟨trivial, by simp at hxs ⊢; omega⟩) ?_
        (conv => whnf)
        (try simp only [hl1, hl2])
        repeat (first | (refine V.s1 ?_; (try simp only [hl1, hl2])) | ((with_reducible refine recheck_and ?_ ?_); (focus ((conv => whnf); (try simp only [hl1, hl2]); (repeat (refine V.s1 ?_; (try simp only [hl1, hl2]))); exact ⟨rfl⟩)); (conv => whnf); (try simp only [hl1, hl2])))
        exact ⟨y :: (r ++ [e]), by simp at hq ⊢; omega, by simp at hq ⊢; omega, V.wk⟩
      · (conv => whnf)
        refine V.st ?_
        refine .inl ?_
        (conv => whnf)
        refine ⟨0, _, _, ⟨Try.func12, rfl, rfl, Nat.le_of_ble_eq_true rfl⟩, ?_⟩
        (conv => whnf)
        (conv => whnf)
        refine V.st ?_
        try refine And.intro (fun _ => ⟨rfl, by simp at hxs ⊢; omega⟩) ?_
        (conv => whnf)
        (try simp only [List.nil_append, List.drop_zero, List.take_length, Nat.zero_add])
        repeat (first | (refine V.s1 ?_; (try simp only [List.nil_append, List.drop_zero, List.take_length, Nat.zero_add])) | ((with_reducible refine recheck_and ?_ ?_); (focus ((conv => whnf); (try simp only [List.nil_append, List.drop_zero, List.take_length, Nat.zero_add]); (repeat (refine V.s1 ?_; (try simp only [List.nil_append, List.drop_zero, List.take_length, Nat.zero_add]))); exact ⟨rfl⟩)); (conv => whnf); (try simp only [List.nil_append, List.drop_zero, List.take_length, Nat.zero_add])))
        try refine And.intro (fun _ => ⟨trivial, by simp at hxs ⊢; omega⟩) ?_
        (conv => whnf)
        (try simp only [List.nil_append, List.drop_zero, List.take_length, Nat.zero_add])
        repeat (first | (refine V.s1 ?_; (try simp only [List.nil_append, List.drop_zero, List.take_length, Nat.zero_add])) | ((with_reducible refine recheck_and ?_ ?_); (focus ((conv => whnf); (try simp only [List.nil_append, List.drop_zero, List.take_length, Nat.zero_add]); (repeat (refine V.s1 ?_; (try simp only [List.nil_append, List.drop_zero, List.take_length, Nat.zero_add]))); exact ⟨rfl⟩)); (conv => whnf); (try simp only [List.nil_append, List.drop_zero, List.take_length, Nat.zero_add])))
        refine Lp.pub 64 ?_
        (conv => whnf)
        refine Lp.pub 71 ?_
        (conv => whnf)
        refine lp_go (3) (fun k => True) (fun k => [(73, .int .i64 k)]) (fun k => []) V.wk ?_ ?_
        · trivial
        intro k hk _
        have hk2 : k = 3 ∨ k = 0 ∨ k = 1 ∨ k = 2 := by omega
        rcases hk2 with rfl | rfl | rfl | rfl
        · (conv => whnf)
          refine V.st ?_
          first | exact ⟨1, ⟨by omega, trivial⟩, by omega, V.wk⟩ | exact ⟨2, ⟨by omega, trivial⟩, by omega, V.wk⟩ | exact ⟨3, ⟨by omega, trivial⟩, by omega, V.wk⟩ | exact ⟨4, ⟨by omega, trivial⟩, by omega, V.wk⟩
        all_goals
          (conv => whnf)
          refine V.st ?_
          repeat ((try ((with_reducible refine .ext ?_); (conv => whnf))); (with_reducible refine call_intro (r := ?_) ?_ ?_); rotate_left; (focus (first | exact (hE _) | exact (hP2) | exact (hQ2) | exact (hR2) | exact (hT2) | (refine hP _ ?_; simp at *; omega) | (refine hQ _ ?_; simp at *; omega) | (refine hR _ ?_; simp at *; omega) | (refine hT _ ?_; simp at *; omega))); (conv => whnf); refine V.st ?_)
          refine Cnd.split (CondB.mk (fun hb => ?_) (fun hb => ?_))
          · simp at hb
          (conv => whnf)
          refine V.st ?_
          first | exact ⟨1, ⟨by omega, trivial⟩, by omega, V.wk⟩ | exact ⟨2, ⟨by omega, trivial⟩, by omega, V.wk⟩ | exact ⟨3, ⟨by omega, trivial⟩, by omega, V.wk⟩
end Go.Proofs.Ytfhmfpneiagakaa
