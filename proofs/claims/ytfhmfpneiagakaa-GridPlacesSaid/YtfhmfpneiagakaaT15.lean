/- What some functions of the program answer at values that mean given lists and numbers, each proved of the program's own code. Conditions: those that each theorem names. -/
import Derived.Test.YtfhmfpneiagakaaT14
set_option linter.unusedSimpArgs false
set_option linter.unusedVariables false
set_option maxHeartbeats 8000000
set_option maxRecDepth 100000
namespace Go.Proofs.Ytfhmfpneiagakaa
open Go Go.V Go.Gr
def nsD (ds : List Int) : List Nat := if ds = [] then [2] else (ds.take 3).map fun x => (2 + x % 3).toNat
def wD (o : Int) : Nat := (1 + o % 3).toNat
def draftD (ds : List Int) (o : Int) (vals : List Int) (sm : Bool) : D := .agg [.ints .u8 ds, .int .u8 o, .ints .u16 vals, .bool sm]
def dData (ds : List Int) (o : Int) (vals : List Int) (sm : Bool) : List Int := flat (nsD ds) (mkF vals sm (nsD ds) (wD o)) (PR (nsD ds))
theorem nsD_bd (ds : List Int) : (1 ≤ (nsD ds).length ∧ (nsD ds).length ≤ 3) ∧ ∀ n ∈ nsD ds, 2 ≤ n ∧ n ≤ 4 := by
  unfold nsD
  split
  · simp
  · rename_i h
    have : 0 < ds.length := List.length_pos_iff.2 h
    refine ⟨by simp; omega, fun n hn => ?_⟩
    obtain ⟨x, _, rfl⟩ := List.mem_map.1 hn
    omega
theorem wD_bd (o : Int) : 1 ≤ wD o ∧ wD o ≤ 3 := by unfold wD; omega
theorem nz_nsD {ds : List Int} (h : ds ≠ []) : (ds.take 3).map (fun x => 2 + x % 3) = nz (nsD ds) := by
  unfold nsD nz
  rw [if_neg h, List.map_map]
  refine List.map_congr_left fun x _ => ?_
  simp
  omega
theorem draft_c (ds : List Int) (o : Int) (vals : List Int) (sm : Bool) (hd : ∀ v ∈ ds, 0 ≤ v ∧ v ≤ 255) (hdl : ds.length ≤ 281474976710656) (ho : 0 ≤ o ∧ o ≤ 255) (hv : ∀ v ∈ vals, 0 ≤ v ∧ v ≤ 65535) (hvl : vals.length ≤ 281474976710656) :
    Called Try.prog 23 [draftD ds o vals sm] (gridD (nz (nsD ds)) (wD o) (dData ds o vals sm)) := by
  have hb := nsD_bd ds
  have hwb := wD_bd o
  have hmade := made_c ds o vals sm (nsD ds) (wD o) hv hvl (by omega) (fun n hn => by have := hb.2 n hn; omega) (by omega)
  have hwD : 1 + o % 3 = (wD o : Int) := by unfold wD; omega
  refine called_of_run tbOk 6 ⟨Try.func23, rfl, rfl, Nat.le_of_ble_eq_true rfl⟩ ?_
  (conv => whnf)
  (conv => whnf)
  (try simp only [Nat.zero_add])
  repeat (first | (refine V.s1 ?_; (try simp only [Nat.zero_add])) | ((with_reducible refine recheck_and ?_ ?_); (focus ((conv => whnf); (try simp only [Nat.zero_add]); (repeat (refine V.s1 ?_; (try simp only [Nat.zero_add]))); exact ⟨rfl⟩)); (conv => whnf); (try simp only [Nat.zero_add])))
  refine Lp.ghostSlot 26 3 .i64 (by decide) ?_
  (conv => whnf)
  refine lp_any (0) (fun k => k ≤ ds.length ∧ k ≤ 3) (fun k => 3 - k) (fun k => [(4, .int .i64 k), (3, .osl 26 0 ((ds.take k).map fun x => 2 + x % 3).length)]) (fun k => [(26, .arr .i64 ((ds.take k).map fun x => 2 + x % 3))]) ?_ ?_ ?_
  · exact V.wk
  · omega
  intro k hk
  (conv => whnf)
  refine V.st ?_
  refine Cnd.split (CondB.mk (fun hq => ?_) (fun hq => ?_))
  · simp only [Bool.and_eq_true, decide_eq_true_eq] at hq
    obtain ⟨x, hx, ex⟩ := getxn (xs := ds) (k := k) (by omega)
    have hxb := hd x (List.mem_of_getElem? hx)
    have hst : (ds.take k).map (fun x => 2 + x % 3) ++ [2 + x % 3] = (ds.take (k + 1)).map fun x => 2 + x % 3 := by
      rw [List.take_add_one, hx]; simp
    have hst2 : ((ds.take k).map fun x => 2 + x % 3).length + 1 = ((ds.take (k + 1)).map fun x => 2 + x % 3).length := by rw [← hst]; simp
    have hml : ((ds.take k).map fun x => 2 + x % 3).length ≤ 3 := by simp; omega
    (conv => whnf)
    (try simp only [Int.toNat_natCast, ex])
    repeat (first | (refine V.s1 ?_; (try simp only [Int.toNat_natCast, ex])) | ((with_reducible refine recheck_and ?_ ?_); (focus ((conv => whnf); (try simp only [Int.toNat_natCast, ex]); (repeat (refine V.s1 ?_; (try simp only [Int.toNat_natCast, ex]))); exact ⟨rfl⟩)); (conv => whnf); (try simp only [Int.toNat_natCast, ex])))
    try refine And.intro (fun _ => ⟨trivial, by simp; omega⟩) ?_
    (conv => whnf)
    (try simp only [Nat.zero_add, List.drop_zero, List.take_succ_cons, List.take_zero, List.length_cons, List.length_nil, hst, hst2])
    repeat (first | (refine V.s1 ?_; (try simp only [Nat.zero_add, List.drop_zero, List.take_succ_cons, List.take_zero, List.length_cons, List.length_nil, hst, hst2])) | ((with_reducible refine recheck_and ?_ ?_); (focus ((conv => whnf); (try simp only [Nat.zero_add, List.drop_zero, List.take_succ_cons, List.take_zero, List.length_cons, List.length_nil, hst, hst2]); (repeat (refine V.s1 ?_; (try simp only [Nat.zero_add, List.drop_zero, List.take_succ_cons, List.take_zero, List.length_cons, List.length_nil, hst, hst2]))); exact ⟨rfl⟩)); (conv => whnf); (try simp only [Nat.zero_add, List.drop_zero, List.take_succ_cons, List.take_zero, List.length_cons, List.length_nil, hst, hst2])))
    exact ⟨k + 1, by omega, by omega, V.wk⟩
  · have hq2 : ¬ ((k : Int) < ds.length ∧ (k : Int) < 3) := by
      intro h
      rw [decide_eq_true h.1, decide_eq_true h.2] at hq
      cases hq
    have htk : ds.take k = ds.take 3 := by
      rcases Nat.lt_or_ge k 3 with h | h
      · rw [List.take_of_length_le (by omega), List.take_of_length_le (by omega)]
      · congr 1; omega
    have hml : ((ds.take 3).map fun x => 2 + x % 3).length ≤ 3 := by simp; omega
    rw [htk]
    (conv => whnf)
    refine V.st ?_
    by_cases hds : ds = []
    · subst hds
      have hnd : nsD [] = [2] := rfl
      refine Cnd.split (CondB.mk (fun hq3 => ?_) (fun hq3 => ?_))
      · (conv => whnf)
        (try simp only [hwD, List.take_succ_cons, List.take_zero, Nat.zero_add, List.drop_zero])
        repeat (first | (refine V.s1 ?_; (try simp only [hwD, List.take_succ_cons, List.take_zero, Nat.zero_add, List.drop_zero])) | ((with_reducible refine recheck_and ?_ ?_); (focus ((conv => whnf); (try simp only [hwD, List.take_succ_cons, List.take_zero, Nat.zero_add, List.drop_zero]); (repeat (refine V.s1 ?_; (try simp only [hwD, List.take_succ_cons, List.take_zero, Nat.zero_add, List.drop_zero]))); exact ⟨rfl⟩)); (conv => whnf); (try simp only [hwD, List.take_succ_cons, List.take_zero, Nat.zero_add, List.drop_zero])) | ((try ((with_reducible refine .ext ?_); (conv => whnf); (try simp only [hwD, List.take_succ_cons, List.take_zero, Nat.zero_add, List.drop_zero]))); (with_reducible refine call_intro (r := ?_) ?_ ?_); rotate_left; (focus (first | exact (hmade))); (conv => whnf); (try simp only [hwD, List.take_succ_cons, List.take_zero, Nat.zero_add, List.drop_zero])))
        exact Fin.of rfl
      · simp at hq3
    · have hnd := nz_nsD hds
      have hlp : 0 < ds.length := List.length_pos_iff.2 hds
      refine Cnd.split (CondB.mk (fun hq3 => ?_) (fun hq3 => ?_))
      · simp at hq3
        exact absurd hq3 hds
      · rw [hnd] at hml ⊢
        (conv => whnf)
        (try simp only [hwD, List.take_length])
        repeat (first | (refine V.s1 ?_; (try simp only [hwD, List.take_length])) | ((with_reducible refine recheck_and ?_ ?_); (focus ((conv => whnf); (try simp only [hwD, List.take_length]); (repeat (refine V.s1 ?_; (try simp only [hwD, List.take_length]))); exact ⟨rfl⟩)); (conv => whnf); (try simp only [hwD, List.take_length])) | ((try ((with_reducible refine .ext ?_); (conv => whnf); (try simp only [hwD, List.take_length]))); (with_reducible refine call_intro (r := ?_) ?_ ?_); rotate_left; (focus (first | exact (hmade))); (conv => whnf); (try simp only [hwD, List.take_length])))
        exact Fin.of rfl
theorem flat_length {ns : List Nat} {f : Nat → List Int} {w m : Nat} (h : ∀ j, (f j).length = w) : (flat ns f m).length = m * w := by
  induction m with
  | zero => simp [flat]
  | succ m ih => rw [flat_succ, List.length_append, ih, h, Nat.add_mul, Nat.one_mul]
theorem mem_flat {ns : List Nat} {f : Nat → List Int} {m : Nat} {x : Int} (h : x ∈ flat ns f m) : ∃ j, j < m ∧ x ∈ f j := by
  unfold flat at h
  rw [List.mem_flatMap] at h
  obtain ⟨j, h1, h2⟩ := h
  exact ⟨j, List.mem_range.1 h1, h2⟩
theorem draft_ok (ds : List Int) (o : Int) (vals : List Int) (sm : Bool) (hv : ∀ v ∈ vals, 0 ≤ v ∧ v ≤ 65535) : okGrid (nz (nsD ds)) (wD o) (dData ds o vals sm) = true := by
  have hb := nsD_bd ds
  have hwb := wD_bd o
  have hl : (dData ds o vals sm).length = PR (nsD ds) * wD o := flat_length fun j => by simp [mkF]
  have hP : PR (nsD ds) ≤ 64 := by
    have hbb : ∀ l : List Nat, (∀ n ∈ l, 2 ≤ n ∧ n ≤ 4) → PR l ≤ 4 ^ l.length := by
      intro l
      induction l with
      | nil => intro _; decide
      | cons x l ih =>
        intro hl
        have h3 := ih fun n hn => hl n (by simp [hn])
        have h4 := hl x (by simp)
        rw [PR, List.length_cons, Nat.pow_succ, Nat.mul_comm]
        exact Nat.mul_le_mul h3 h4.2
    exact Nat.le_trans (hbb _ hb.2) (Nat.pow_le_pow_right (by omega) hb.1.2)
  have hl2 : PR (nsD ds) * wD o ≤ 64 * 3 := Nat.mul_le_mul hP hwb.2
  unfold okGrid
  have e1 : (nz (nsD ds)).length = (nsD ds).length := by simp [nz]
  have e2 : (nz (nsD ds)).all (fun n => decide (2 ≤ n ∧ n ≤ 9)) = true := by
    rw [List.all_eq_true]
    intro x hx
    obtain ⟨n, hn, rfl⟩ := List.mem_map.1 hx
    have := hb.2 n hn
    simp; omega
  have e3 : (dData ds o vals sm).all (fun v => decide (0 ≤ v ∧ v ≤ 65535)) = true := by
    rw [List.all_eq_true]
    intro x hx
    obtain ⟨j, _, hj⟩ := mem_flat hx
    unfold mkF at hj
    obtain ⟨k, _, rfl⟩ := List.mem_map.1 hj
    have := mkV_bd (sm := sm) (w := wD o) (m := j) (k := k) hv hb.1.1 (fun n hn => by have := hb.2 n hn; omega)
    simpa using this
  rw [e2, e3, prod_nz]
  simp only [Bool.and_true, Bool.and_eq_true, decide_eq_true_eq]
  refine ⟨⟨by omega, by omega⟩, by omega, ?_⟩
  rw [hl]; simp
end Go.Proofs.Ytfhmfpneiagakaa
