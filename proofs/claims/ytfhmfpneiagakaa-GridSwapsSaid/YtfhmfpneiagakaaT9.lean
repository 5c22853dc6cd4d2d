/- What some functions of the program answer at values that mean given lists and numbers, each proved of the program's own code. Conditions: those that each theorem names. -/
import Derived.Test.YtfhmfpneiagakaaT8b
set_option linter.unusedSimpArgs false
set_option linter.unusedVariables false
set_option maxHeartbeats 8000000
set_option maxRecDepth 100000
namespace Go.Proofs.Ytfhmfpneiagakaa
open Go Go.V Go.Gr
def swErr (size : List Int) (out : Int) (data : List Int) (a b : Int) : Int :=
  if okGrid size out data then (if (0 ≤ a ∧ a ≤ (size.length : Int) - 1) ∧ 0 ≤ b ∧ b ≤ (size.length : Int) - 1 then 0 else 2) else 100
def swData (size : List Int) (out : Int) (data : List Int) (a b : Nat) : List Int :=
  flat ((swp size a b).map Int.toNat) (fun m => slot data (pz (size.zip (swp (ixl ((swp size a b).map Int.toNat) m) a b)) * out) out) (PR ((swp size a b).map Int.toNat))
def swR (size : List Int) (out : Int) (data : List Int) (a b : Int) : D :=
  .tup [gridD (if swErr size out data a b = 0 then swp size a.toNat b.toNat else []) (if swErr size out data a b = 0 then out else 0) (if swErr size out data a b = 0 then swData size out data a.toNat b.toNat else []), .int .i64 (swErr size out data a b)]
theorem nz_of {size : List Int} (h : size.all (fun n => decide (2 ≤ n ∧ n ≤ 9)) = true) : ∃ ns : List Nat, size = nz ns ∧ size.map Int.toNat = ns ∧ ∀ n ∈ ns, 2 ≤ n ∧ n ≤ 9 := by
  rw [List.all_eq_true] at h
  refine ⟨size.map Int.toNat, ?_, rfl, fun n hn => ?_⟩
  · unfold nz
    rw [List.map_map]
    refine List.ext_getElem (by simp) fun k h1 h2 => ?_
    have := h size[k] (List.getElem_mem h1)
    simp at this ⊢
    omega
  · obtain ⟨x, hx, rfl⟩ := List.mem_map.1 hn
    have := h x hx
    simp at this
    omega
theorem swap1_c (size : List Int) (out : Int) (data xs : List Int) (a b : Nat) (hg : okGrid size out data = true) (hx : xs.length = 4) (ha : a < 4) (hb : b < 4) (hi : ∀ (k : Nat) (n x : Int), size[k]? = some n → (swp xs a b)[k]? = some x → 0 ≤ x ∧ x ≤ n - 1) :
    Called Try.prog 41 [.iarr .i64 xs, .ref [.int .i64 b], .ref [.int .i64 a], .ref [.fn 38 [gridD size out data] []]] (.ints .i64 (slot data (pz (size.zip (swp xs a b)) * out) out)) := by
  have hs := swp_length xs a b
  have hs4 : (swp xs a b).length = 4 := by omega
  have hxa : (xs.set a (xs.getD b 0)).length = 4 := by simp [hx]
  refine called_of_run tbOk 6 ⟨Try.func41, rfl, rfl, Nat.le_of_ble_eq_true rfl⟩ ?_
  (conv => whnf)
  refine V.st ?_
  refine ⟨(.take 0 (.take 1 (.take 2 (.take 3 (.take 4 (.take 5 (.take 6 (.take 7 (.take 8 (.ev (.cons 9 [1] (.take 10 (.ev (.cons 11 [] (.done) (.nil)))) (.nil)))))))))))), ⟨by kernel_rfl, by kernel_rfl, by kernel_rfl⟩, .go ?_⟩
  (conv => whnf)
  (try simp only [Int.toNat_natCast, Nat.zero_add])
  repeat (first | (refine V.s1 ?_; (try simp only [Int.toNat_natCast, Nat.zero_add])) | ((with_reducible refine recheck_and ?_ ?_); (focus ((conv => whnf); (try simp only [Int.toNat_natCast, Nat.zero_add]); (repeat (refine V.s1 ?_; (try simp only [Int.toNat_natCast, Nat.zero_add]))); exact ⟨rfl⟩)); (conv => whnf); (try simp only [Int.toNat_natCast, Nat.zero_add])) | ((try ((with_reducible refine .ext ?_); (conv => whnf); (try simp only [Int.toNat_natCast, Nat.zero_add]))); (with_reducible refine call_intro (r := ?_) ?_ ?_); rotate_left; (focus (first | exact (values_c _ _ _ _ hg hs4 hi))); (conv => whnf); (try simp only [Int.toNat_natCast, Nat.zero_add])))
  exact Fin.of rfl
theorem swap_c (size : List Int) (out : Int) (data : List Int) (a b : Int) (hs : size.length ≤ 281474976710656) (hd : data.length ≤ 281474976710656) :
    Called Try.prog 18 [gridD size out data, .int .i64 a, .int .i64 b] (swR size out data a b) := by
  refine called_of_run tbOk 6 ⟨Try.func18, rfl, rfl, Nat.le_of_ble_eq_true rfl⟩ ?_
  (conv => whnf)
  refine V.st ?_
  repeat ((try ((with_reducible refine .ext ?_); (conv => whnf))); (with_reducible refine call_intro (r := ?_) ?_ ?_); rotate_left; (focus (first | exact (check_c _ _ _ hs hd))); (conv => whnf); refine V.st ?_)
  cases hg : okGrid size out data with
  | false =>
    have hE : swErr size out data a b = 100 := by unfold swErr; rw [hg]; rfl
    refine Cnd.split (CondB.mk (fun h => ?_) (fun h => ?_))
    · (conv => whnf)
      refine V.st ?_
      unfold swR
      rw [hE]
      exact Fin.tup ⟨Fin.agg ⟨Fin.nil _, Fin.of rfl, Fin.nil _, trivial⟩, Fin.of rfl, trivial⟩
    · simp at h
  | true =>
    have hG := okGrid_iff hg
    refine Cnd.split (CondB.mk (fun h => ?_) (fun h => ?_))
    · simp at h
    clear h
    (conv => whnf)
    refine V.st ?_
    repeat ((try ((with_reducible refine .ext ?_); (conv => whnf))); (with_reducible refine call_intro (r := ?_) ?_ ?_); rotate_left; (focus (first | exact (within_c _ _ _))); (conv => whnf); refine V.st ?_)
    refine Cnd.split (CondB.mk (fun h => ?_) (fun h => ?_))
    · have hE : swErr size out data a b = 2 := by
        unfold swErr; rw [hg, if_pos rfl, if_neg]
        simp at h; omega
      (conv => whnf)
      refine V.st ?_
      unfold swR
      rw [hE]
      exact Fin.tup ⟨Fin.agg ⟨Fin.nil _, Fin.of rfl, Fin.nil _, trivial⟩, Fin.of rfl, trivial⟩
    have hab : (0 ≤ a ∧ a ≤ (size.length : Int) - 1) ∧ 0 ≤ b ∧ b ≤ (size.length : Int) - 1 := by simp at h; omega
    clear h
    obtain ⟨a, rfl⟩ : ∃ x : Nat, a = x := ⟨a.toNat, by omega⟩
    obtain ⟨b, rfl⟩ : ∃ x : Nat, b = x := ⟨b.toNat, by omega⟩
    have hE : swErr size out data a b = 0 := by
      unfold swErr; rw [hg, if_pos rfl, if_pos hab]
    (conv => whnf)
    refine .inl ?_
    (conv => whnf)
    refine ⟨0, _, _, ⟨Try.func12, rfl, rfl, Nat.le_of_ble_eq_true rfl⟩, ?_⟩
    (conv => whnf)
    refine AnyB.mk (fun h => ?_) (fun _ => ?_)
    · have := h rfl
      subst this
      simp at hG
    (conv => whnf)
    try refine And.intro (fun _ => ⟨rfl, by simp; omega⟩) ?_
    (conv => whnf)
    refine V.st ?_
    refine ⟨(.take 0 (.take 1 (.take 2 (.take 3 (.take 4 (.take 5 (.take 6 (.take 7 (.take 8 (.take 9 (.take 10 (.take 11 (.take 12 (.ev (.cons 13 [3, 2] (.take 14 (.ev (.cons 15 [] (.done) (.nil)))) (.nil)))))))))))))))), ⟨by kernel_rfl, by kernel_rfl, by kernel_rfl⟩, .go ?_⟩
    obtain ⟨ns0, hn0, hn1, hn2⟩ := nz_of hG.2.2.2.2.1
    have hsl : size.length = ns0.length := by rw [hn0]; simp [nz]
    have hal : a < ns0.length := by omega
    have hbl : b < ns0.length := by omega
    have hsw : swp size a b = nz (swn ns0 a b) := by rw [hn0]; exact swp_map hal hbl
    have htk : List.take size.length ((size.set a (size.getD b 0)).set b (size.getD a 0)) = nz (swn ns0 a b) := by
      rw [List.take_of_length_le (by simp)]; exact hsw
    have hmap : (swp size a b).map Int.toNat = swn ns0 a b := by rw [hsw]; unfold nz; rw [List.map_map]; exact List.map_id' _
    have hswl := swn_length ns0 a b
    have hsb : ∀ n ∈ swn ns0 a b, 2 ≤ n ∧ n ≤ 9 := fun n hn => hn2 n (mem_swn hal hbl hn)
    have hf : ∀ m, m < PR (swn ns0 a b) → Called Try.prog 41 [.iarr .i64 (pad4 (ixl (swn ns0 a b) m)), .ref [.int .i64 b], .ref [.int .i64 a], .ref [.fn 38 [gridD size out data] []]] (.ints .i64 (slot data (pz (size.zip (swp (ixl (swn ns0 a b) m) a b)) * out) out)) := fun m hm => by
      have hil := ixl_length (swn ns0 a b) m
      have hbd : ∀ (k : Nat) (n x : Int), (swp size a b)[k]? = some n → (ixl (swn ns0 a b) m)[k]? = some x → 0 ≤ x ∧ x ≤ n - 1 := fun k n x h1 h2 => by
        rw [hsw] at h1
        simp only [nz, List.getElem?_map, Option.map_eq_some_iff] at h1
        obtain ⟨n', h3, rfl⟩ := h1
        exact ixl_bd (fun n hn => by have := hsb n hn; omega) h3 h2
      have hbd2 := swp_bd (by omega) (by omega) (by omega) hbd
      have hpad : swp (pad4 (ixl (swn ns0 a b) m)) a b = pad4 (swp (ixl (swn ns0 a b) m) a b) := by
        unfold pad4
        rw [swp_app (by omega) (by omega), swp_length]
      have hz : size.zip (swp (pad4 (ixl (swn ns0 a b) m)) a b) = size.zip (swp (ixl (swn ns0 a b) m) a b) := by
        rw [hpad]
        exact zip_pad (okIdx_iff.2 ⟨by rw [swp_length]; omega, hbd2⟩)
      rw [← hz]
      refine swap1_c size out data _ a b hg (pad4_length (by omega)) (by omega) (by omega) fun k n x h1 h2 => ?_
      rw [hpad] at h2
      exact (okIdx_pad (okIdx_iff.2 ⟨by rw [swp_length]; omega, hbd2⟩) hG.2.1).2 k n x h1 h2
    have hsl4 : ∀ m, (slot data (pz (size.zip (swp (ixl (swn ns0 a b) m) a b)) * out) out).length ≤ 4 := fun m => by
      simp [slot]; omega
    (conv => whnf)
    (try simp only [List.nil_append, Int.toNat_natCast, Nat.zero_add, Nat.add_zero, List.length_set, htk])
    repeat (first | (refine V.s1 ?_; (try simp only [List.nil_append, Int.toNat_natCast, Nat.zero_add, Nat.add_zero, List.length_set, htk])) | ((with_reducible refine recheck_and ?_ ?_); (focus ((conv => whnf); (try simp only [List.nil_append, Int.toNat_natCast, Nat.zero_add, Nat.add_zero, List.length_set, htk]); (repeat (refine V.s1 ?_; (try simp only [List.nil_append, Int.toNat_natCast, Nat.zero_add, Nat.add_zero, List.length_set, htk]))); exact ⟨rfl⟩)); (conv => whnf); (try simp only [List.nil_append, Int.toNat_natCast, Nat.zero_add, Nat.add_zero, List.length_set, htk])) | ((try ((with_reducible refine .ext ?_); (conv => whnf); (try simp only [List.nil_append, Int.toNat_natCast, Nat.zero_add, Nat.add_zero, List.length_set, htk]))); (with_reducible refine call_intro (r := ?_) ?_ ?_); rotate_left; (focus (first | exact (gathered3_c _ _ _ _ _ _ _ _ _ (by omega) hsb (fun m _ => hsl4 m) hf))); (conv => whnf); (try simp only [List.nil_append, Int.toNat_natCast, Nat.zero_add, Nat.add_zero, List.length_set, htk])))
    unfold swR
    rw [hE]
    simp only [if_true, Int.toNat_natCast]
    rw [hsw]
    unfold swData
    rw [hmap]
    exact Fin.of rfl
end Go.Proofs.Ytfhmfpneiagakaa
