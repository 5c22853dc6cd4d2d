/- What some functions of the program answer at values that mean given lists and numbers, each proved of the program's own code. Conditions: those that each theorem names. -/
import Derived.Test.YtfhmfpneiagakaaT15
import Derived.Test.YtfhmfpneiagakaaT19
set_option linter.unusedSimpArgs false
set_option linter.unusedVariables false
set_option maxHeartbeats 8000000
set_option maxRecDepth 100000
namespace Go.Proofs.Ytfhmfpneiagakaa
open Go Go.V Go.Gr
theorem take_slot {data : List Int} {w n : Nat} : data.take (n * w) ++ slot data ((n * w : Nat) : Int) w = data.take ((n + 1) * w) := by
  unfold slot
  rw [Int.toNat_natCast, Int.toNat_natCast, Nat.add_mul, Nat.one_mul, List.take_add]
theorem ixl_ok {ns : List Nat} {m : Nat} (hp : ∀ n ∈ ns, 0 < n) : okIdx (nz ns) (ixl ns m) = true :=
  okIdx_iff.2 ⟨by rw [ixl_length]; simp [nz], fun k n x h1 h2 => by
    simp only [nz, List.getElem?_map, Option.map_eq_some_iff] at h1
    obtain ⟨n', h3, rfl⟩ := h1
    exact ixl_bd hp h3 h2⟩
theorem pz_ixl {ns : List Nat} {m : Nat} (hp : ∀ n ∈ ns, 0 < n) (hm : m < PR ns) : pz ((nz ns).zip (ixl ns m)) = m := by
  have := pz_ixl_aux ns hp m 0
  rw [Nat.mod_eq_of_lt hm] at this
  unfold pz nz
  simpa using this
theorem place_at {ns : List Nat} {w m : Nat} {data : List Int} (hg : okGrid (nz ns) w data = true) (hp : ∀ n ∈ ns, 0 < n) (hm : m < PR ns) (hs : (nz ns).length ≤ 281474976710656) (hd : data.length ≤ 281474976710656) (hl : ns.length ≤ 4) :
    Called Try.prog 13 [gridD (nz ns) w data, .ints .i64 (ixl ns m)] (.tup [.int .i64 ((m * w : Nat) : Int), .int .i64 0]) ∧
    Called Try.prog 15 [gridD (nz ns) w data, .ints .i64 (ixl ns m)] (.tup [.ints .i64 (slot data ((m * w : Nat) : Int) w), .int .i64 0]) := by
  have h1 := ixl_length ns m
  have e1 := ixl_ok (m := m) hp
  have e2 := pz_ixl hp hm
  exact ⟨Called.cast (gplace_c _ _ _ _ hs hd (by omega)) (by rw [hg, e1, e2, Int.natCast_mul]; rfl), Called.cast (gat_c _ _ _ _ hs hd (by omega)) (by rw [hg, e1, e2, Int.natCast_mul]; rfl)⟩
theorem order_c (ds : List Int) (o : Int) (vals : List Int) (sm : Bool) (hd : ∀ v ∈ ds, 0 ≤ v ∧ v ≤ 255) (hdl : ds.length ≤ 281474976710656) (ho : 0 ≤ o ∧ o ≤ 255) (hv : ∀ v ∈ vals, 0 ≤ v ∧ v ≤ 65535) (hvl : vals.length ≤ 281474976710656) :
    Called Try.prog 5 [draftD ds o vals sm] (.bool true) := by
  have hb := nsD_bd ds
  have hwb := wD_bd o
  have hdr := draft_c ds o vals sm hd hdl ho hv hvl
  have hg := draft_ok ds o vals sm hv
  generalize nsD ds = ns at *
  generalize wD o = w at *
  generalize dData ds o vals sm = data at *
  have hG := okGrid_iff hg
  have hpos : ∀ n ∈ ns, 0 < n := fun n hn => by have := hb.2 n hn; omega
  have hns : (nz ns).length = ns.length := by simp [nz]
  have hdl : data.length = PR ns * w := by
    have := hG.2.2.2.2.2.2.1
    rw [prod_nz, ← Int.natCast_mul] at this
    omega
  have hck : Called Try.prog 25 [gridD (nz ns) w data] (.int .i64 0) := Called.cast (check_c _ _ _ (by omega) (by omega)) (by rw [hg]; rfl)
  have heq : Called Try.prog 17 [.ints .i64 data, .ints .i64 data] (.bool true) := Called.cast (equal_c _ _ (by omega) (by omega)) (by simp)
  refine called_of_run tbOk 6 ⟨Try.func5, rfl, rfl, Nat.le_of_ble_eq_true rfl⟩ ?_
  (conv => whnf)
  refine V.st ?_
  repeat ((try ((with_reducible refine .ext ?_); (conv => whnf))); (with_reducible refine call_intro (r := ?_) ?_ ?_); rotate_left; (focus (first | exact (wakes_c) | exact (hdr))); (conv => whnf); refine V.st ?_)
  refine Lp.ghostSlot 60 4 .i64 (by decide) ?_
  (conv => whnf)
  refine lp_any (0) (fun k => k ≤ PR ns) (fun k => PR ns - k) (fun k => [(5, .int .i64 k), (4, .osl 60 0 (data.take (k * w)).length)]) (fun k => [(60, .arr .i64 (data.take (k * w)))]) ?_ ?_ ?_
  · simp only [Nat.zero_mul, List.take_zero, List.length_nil]
    exact V.wk
  · exact Nat.zero_le _
  intro k hk
  have hkl : k * w ≤ PR ns * w := Nat.mul_le_mul_right _ hk
  have htl : (data.take (k * w)).length = k * w := by rw [List.length_take]; omega
  (conv => whnf)
  refine V.st ?_
  refine Cnd.split (CondB.mk (fun hq => ?_) (fun hq => ?_))
  · rw [decide_eq_true_eq] at hq
    have hk1 : k < PR ns := by
      rcases Nat.lt_or_ge k (PR ns) with h | h
      · exact h
      · have : PR ns * w ≤ k * w := Nat.mul_le_mul_right _ h
        omega
    have hPR := PR_le (by omega) (fun n hn => by have := hb.2 n hn; omega : ∀ n ∈ ns, 2 ≤ n ∧ n ≤ 9)
    have hpa := place_at hg hpos hk1 (by omega) (by omega) (by omega)
    have hi := index_c ns k (fun n hn => by have := hb.2 n hn; omega) (by omega) (by omega)
    have hsl := slot_m hdl hk1
    (conv => whnf)
    refine V.st ?_
    repeat ((try ((with_reducible refine .ext ?_); (conv => whnf))); (with_reducible refine call_intro (r := ?_) ?_ ?_); rotate_left; (focus (first | exact (hi) | exact (hpa.1) | exact (hpa.2))); (conv => whnf); refine V.st ?_)
    refine Cnd.split (CondB.mk (fun hq2 => ?_) (fun hq2 => ?_))
    · exfalso
      rw [htl, hsl] at hq2
      simp at hq2
    have hts := take_slot (data := data) (w := w) (n := k)
    have hts2 : (data.take (k * w)).length + w = (data.take ((k + 1) * w)).length := by rw [← hts, List.length_append, hsl]
    have hsl2 : (slot data ((k * w : Nat) : Int) w).take w = slot data ((k * w : Nat) : Int) w := List.take_of_length_le (by omega)
    have hl2 : (data.take ((k + 1) * w)).length ≤ 17592186044416 := by rw [List.length_take]; omega
    (conv => whnf)
    (try simp only [hsl, hts, hts2, List.drop_zero, Nat.zero_add])
    repeat (first | (refine V.s1 ?_; (try simp only [hsl, hts, hts2, List.drop_zero, Nat.zero_add])) | ((with_reducible refine recheck_and ?_ ?_); (focus ((conv => whnf); (try simp only [hsl, hts, hts2, List.drop_zero, Nat.zero_add]); (repeat (refine V.s1 ?_; (try simp only [hsl, hts, hts2, List.drop_zero, Nat.zero_add]))); exact ⟨rfl⟩)); (conv => whnf); (try simp only [hsl, hts, hts2, List.drop_zero, Nat.zero_add])) | ((try ((with_reducible refine .ext ?_); (conv => whnf); (try simp only [hsl, hts, hts2, List.drop_zero, Nat.zero_add]))); (with_reducible refine call_intro (r := ?_) ?_ ?_); rotate_left; (focus (first | exact (hi) | exact (hpa.1) | exact (hpa.2))); (conv => whnf); (try simp only [hsl, hts, hts2, List.drop_zero, Nat.zero_add])))
    exact ⟨k + 1, hk1, by omega, V.wk⟩
  · rw [decide_eq_false_iff_not] at hq
    have hk1 : k = PR ns := by
      rcases Nat.lt_or_ge k (PR ns) with h | h
      · exfalso
        have : (k + 1) * w ≤ PR ns * w := Nat.mul_le_mul_right _ h
        rw [Nat.add_mul] at this
        omega
      · omega
    have hdt : data.take (k * w) = data := by
      rw [hk1, ← hdl]
      exact List.take_of_length_le (Nat.le_refl _)
    rw [hdt]
    (conv => whnf)
    (try simp only [List.take_length])
    repeat (first | (refine V.s1 ?_; (try simp only [List.take_length])) | ((with_reducible refine recheck_and ?_ ?_); (focus ((conv => whnf); (try simp only [List.take_length]); (repeat (refine V.s1 ?_; (try simp only [List.take_length]))); exact ⟨rfl⟩)); (conv => whnf); (try simp only [List.take_length])) | ((try ((with_reducible refine .ext ?_); (conv => whnf); (try simp only [List.take_length]))); (with_reducible refine call_intro (r := ?_) ?_ ?_); rotate_left; (focus (first | exact (hck) | exact (heq))); (conv => whnf); (try simp only [List.take_length])))
    exact Fin.of rfl
end Go.Proofs.Ytfhmfpneiagakaa
