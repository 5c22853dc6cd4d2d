/- What some functions of the program answer at values that mean given lists and numbers, each proved of the program's own code. Conditions: those that each theorem names. -/
import Derived.Test.YtfhmfpneiagakaaT9
set_option linter.unusedSimpArgs false
set_option linter.unusedVariables false
set_option maxHeartbeats 8000000
set_option maxRecDepth 100000
namespace Go.Proofs.Ytfhmfpneiagakaa
open Go Go.V Go.Gr
def pkIn (out : Int) (outs : List Int) : Bool := decide (1 ≤ outs.length ∧ outs.length ≤ 4) && outs.all fun o => decide (0 ≤ o ∧ o ≤ out - 1)
def pkErr (size : List Int) (out : Int) (data outs : List Int) : Int :=
  if okGrid size out data then (if pkIn out outs then (if prod size * outs.length > 4096 then 3 else 0) else 2) else 100
def pkF (out : Int) (data outs : List Int) (m : Nat) : List Int := outs.map fun o => data.getD (m * out.toNat + o.toNat) 0
def pkData (size : List Int) (out : Int) (data outs : List Int) : List Int := flat (size.map Int.toNat) (pkF out data outs) (PR (size.map Int.toNat))
def pkR (size : List Int) (out : Int) (data outs : List Int) : D :=
  .tup [gridD (if pkErr size out data outs = 0 then size else []) (if pkErr size out data outs = 0 then outs.length else 0) (if pkErr size out data outs = 0 then pkData size out data outs else []), .int .i64 (pkErr size out data outs)]
theorem fill_set {l : List Int} {k : Nat} {x : Int} (f : Int → Int) (h : l[k]? = some x) : ((l.take k).map f ++ List.replicate (l.length - k) 0).set k (f x) = (l.take (k + 1)).map f ++ List.replicate (l.length - (k + 1)) 0 := by
  have hk := (List.getElem?_eq_some_iff.1 h).1
  have h1 : ((l.take k).map f).length = k := by simp; omega
  rw [List.set_append_right _ _ (by omega), h1, Nat.sub_self]
  have h2 : l.length - k = (l.length - (k + 1)) + 1 := by omega
  rw [h2, List.replicate_succ, List.set_cons_zero, List.take_add_one, h]
  simp
theorem pick1_c (size : List Int) (out : Int) (data xs outs : List Int) (hg : okGrid size out data = true) (hx : xs.length = 4) (hi : ∀ (k : Nat) (n x : Int), size[k]? = some n → xs[k]? = some x → 0 ≤ x ∧ x ≤ n - 1) (ho : pkIn out outs = true) :
    Called Try.prog 47 [.iarr .i64 xs, .ref [.fn 38 [gridD size out data] []], .ref [.ints .i64 outs]] (.ints .i64 (outs.map fun o => (slot data (pz (size.zip xs) * out) out).getD o.toNat 0)) := by
  have hG := okGrid_iff hg
  have hlast := pz_last hg (by omega) hi
  have hsl : (slot data (pz (size.zip xs) * out) out).length = out.toNat := slot_length hlast.1 (by omega) hlast.2
  unfold pkIn at ho
  simp only [Bool.and_eq_true, decide_eq_true_eq, List.all_eq_true] at ho
  obtain ⟨ho1, ho2⟩ := ho
  generalize hv : slot data (pz (size.zip xs) * out) out = vs at *
  have hvc : Called Try.prog 38 [gridD size out data, .iarr .i64 xs] (.ints .i64 vs) := hv ▸ values_c size out data xs hg hx hi
  refine called_of_run tbOk 6 ⟨Try.func47, rfl, rfl, Nat.le_of_ble_eq_true rfl⟩ ?_
  (conv => whnf)
  refine V.st ?_
  repeat ((try ((with_reducible refine .ext ?_); (conv => whnf))); (with_reducible refine call_intro (r := ?_) ?_ ?_); rotate_left; (focus (first | exact (hvc))); (conv => whnf); refine V.st ?_)
  have e0 : List.replicate outs.length (0 : Int) = (outs.take 0).map (fun o : Int => vs.getD o.toNat 0) ++ List.replicate (outs.length - 0) 0 := by simp
  simp only [Int.toNat_natCast]
  refine lp_go outs.length (fun _ => True) (fun k => [(17, .int .i64 k)]) (fun k => [(14, .arr .i64 ((outs.take k).map (fun o : Int => vs.getD o.toNat 0) ++ List.replicate (outs.length - k) 0))]) ?_ trivial ?_
  · rw [← e0]
    exact V.wk
  intro k hk _
  (conv => whnf)
  refine V.st ?_
  refine Cnd.split (CondB.mk (fun h => ?_) (fun h => ?_))
  · simp only [decide_eq_true_eq] at h
    obtain ⟨o, ho3, eo⟩ := getxn (xs := outs) (k := k) (by omega)
    have hob := ho2 o (List.mem_of_getElem? ho3)
    have hfs := fill_set (fun o : Int => vs.getD o.toNat 0) ho3
    have hfl : ((outs.take k).map (fun o : Int => vs.getD o.toNat 0) ++ List.replicate (outs.length - k) 0).length = outs.length := by simp; omega
    (conv => whnf)
    (try simp only [eo, Int.toNat_natCast, Nat.zero_add, hfs])
    repeat (first | (refine V.s1 ?_; (try simp only [eo, Int.toNat_natCast, Nat.zero_add, hfs])) | ((with_reducible refine recheck_and ?_ ?_); (focus ((conv => whnf); (try simp only [eo, Int.toNat_natCast, Nat.zero_add, hfs]); (repeat (refine V.s1 ?_; (try simp only [eo, Int.toNat_natCast, Nat.zero_add, hfs]))); exact ⟨rfl⟩)); (conv => whnf); (try simp only [eo, Int.toNat_natCast, Nat.zero_add, hfs])))
    exact ⟨k + 1, ⟨by omega, trivial⟩, by omega, V.wk⟩
  · simp only [decide_eq_false_iff_not] at h
    have hk2 : k = outs.length := by omega
    subst hk2
    (conv => whnf)
    (try simp only [Int.toNat_natCast, Nat.sub_self, List.replicate_zero, List.append_nil, List.take_length])
    repeat (first | (refine V.s1 ?_; (try simp only [Int.toNat_natCast, Nat.sub_self, List.replicate_zero, List.append_nil, List.take_length])) | ((with_reducible refine recheck_and ?_ ?_); (focus ((conv => whnf); (try simp only [Int.toNat_natCast, Nat.sub_self, List.replicate_zero, List.append_nil, List.take_length]); (repeat (refine V.s1 ?_; (try simp only [Int.toNat_natCast, Nat.sub_self, List.replicate_zero, List.append_nil, List.take_length]))); exact ⟨rfl⟩)); (conv => whnf); (try simp only [Int.toNat_natCast, Nat.sub_self, List.replicate_zero, List.append_nil, List.take_length])))
    refine Fin.of ?_
    rw [List.take_of_length_le (by simp)]
theorem pkIn_no {out : Int} {outs : List Int} {k : Nat} {o : Int} (h : outs[k]? = some o) (hb : ¬ (0 ≤ o ∧ o ≤ out - 1)) : pkIn out outs = false := by
  cases hc : pkIn out outs with
  | false => rfl
  | true =>
    unfold pkIn at hc
    simp only [Bool.and_eq_true, decide_eq_true_eq, List.all_eq_true] at hc
    exact absurd (hc.2 o (List.mem_of_getElem? h)) hb
theorem pk_val {size : List Int} {out : Int} {data outs : List Int} {ns : List Nat} {m : Nat} (hg : okGrid size out data = true) (hns : size = nz ns) (hb : ∀ n ∈ ns, 2 ≤ n ∧ n ≤ 9) (ho : pkIn out outs = true) (hm : m < PR ns) :
    (outs.map fun o : Int => (slot data (pz (size.zip (pad4 (ixl ns m))) * out) out).getD o.toNat 0) = pkF out data outs m := by
  have hG := okGrid_iff hg
  have hpos : ∀ n ∈ ns, 0 < n := fun n hn => by have := hb n hn; omega
  have hil := ixl_length ns m
  have hsl : size.length = ns.length := by rw [hns]; simp [nz]
  have hok : okIdx size (ixl ns m) = true := okIdx_iff.2 ⟨by omega, fun k n x h1 h2 => by
    rw [hns] at h1
    simp only [nz, List.getElem?_map, Option.map_eq_some_iff] at h1
    obtain ⟨n', h3, rfl⟩ := h1
    exact ixl_bd hpos h3 h2⟩
  have hpz : pz (size.zip (pad4 (ixl ns m))) = (m : Int) := by
    rw [zip_pad hok, hns]
    have := pz_ixl_aux ns hpos m 0
    rw [Nat.mod_eq_of_lt hm] at this
    unfold pz nz
    simpa using this
  rw [hpz]
  unfold pkIn at ho
  simp only [Bool.and_eq_true, decide_eq_true_eq, List.all_eq_true] at ho
  unfold pkF
  refine List.map_congr_left fun o hom => ?_
  have h1 := ho.2 o hom
  unfold slot
  have e1 : ((m : Int) * out).toNat = m * out.toNat := by
    obtain ⟨w, rfl⟩ : ∃ w : Nat, out = w := ⟨out.toNat, by omega⟩
    rw [← Int.natCast_mul, Int.toNat_natCast, Int.toNat_natCast]
  rw [e1, List.getD_eq_getElem?_getD, List.getD_eq_getElem?_getD, List.getElem?_take_of_lt (by omega), List.getElem?_drop]
theorem pick_c (size : List Int) (out : Int) (data outs : List Int) (hs : size.length ≤ 281474976710656) (hd : data.length ≤ 281474976710656) (ho : outs.length ≤ 281474976710656) :
    Called Try.prog 21 [gridD size out data, .ints .i64 outs] (pkR size out data outs) := by
  refine called_of_run tbOk 6 ⟨Try.func21, rfl, rfl, Nat.le_of_ble_eq_true rfl⟩ ?_
  (conv => whnf)
  refine V.st ?_
  repeat ((try ((with_reducible refine .ext ?_); (conv => whnf))); (with_reducible refine call_intro (r := ?_) ?_ ?_); rotate_left; (focus (first | exact (check_c _ _ _ hs hd))); (conv => whnf); refine V.st ?_)
  cases hg : okGrid size out data with
  | false =>
    have hE : pkErr size out data outs = 100 := by unfold pkErr; rw [hg]; rfl
    refine Cnd.split (CondB.mk (fun h => ?_) (fun h => ?_))
    · (conv => whnf)
      refine V.st ?_
      unfold pkR
      rw [hE]
      exact Fin.tup ⟨Fin.agg ⟨Fin.nil _, Fin.of rfl, Fin.nil _, trivial⟩, Fin.of rfl, trivial⟩
    · simp at h
  | true =>
    have hG := okGrid_iff hg
    have hE2 : pkIn out outs = false → pkErr size out data outs = 2 := fun e => by unfold pkErr; rw [hg, e]; rfl
    refine Cnd.split (CondB.mk (fun h => ?_) (fun h => ?_))
    · simp at h
    clear h
    (conv => whnf)
    refine V.st ?_
    repeat ((try ((with_reducible refine .ext ?_); (conv => whnf))); (with_reducible refine call_intro (r := ?_) ?_ ?_); rotate_left; (focus (first | exact (within_c _ _ _))); (conv => whnf); refine V.st ?_)
    refine Cnd.split (CondB.mk (fun h => ?_) (fun h => ?_))
    · have hE := hE2 (by unfold pkIn; simp at h; simp; omega)
      (conv => whnf)
      refine V.st ?_
      unfold pkR
      rw [hE]
      exact Fin.tup ⟨Fin.agg ⟨Fin.nil _, Fin.of rfl, Fin.nil _, trivial⟩, Fin.of rfl, trivial⟩
    have hol : 1 ≤ outs.length ∧ outs.length ≤ 4 := by simp at h; omega
    clear h
    (conv => whnf)
    refine V.st ?_
    refine lp_go (outs.length) (fun k => (outs.take k).all (fun o => decide (0 ≤ o ∧ o ≤ out - 1)) = true) (fun k => [(23, .int .i64 k)]) (fun k => []) V.wk ?_ ?_
    · rfl
    intro k hk hI
    (conv => whnf)
    refine V.st ?_
    refine Cnd.split (CondB.mk (fun h => ?_) (fun h => ?_))
    · simp only [decide_eq_true_eq] at h
      obtain ⟨o, ho3, eo⟩ := getxn (xs := outs) (k := k) (by omega)
      (conv => whnf)
      (try simp only [eo, Int.toNat_natCast])
      repeat (first | (refine V.s1 ?_; (try simp only [eo, Int.toNat_natCast])) | ((with_reducible refine recheck_and ?_ ?_); (focus ((conv => whnf); (try simp only [eo, Int.toNat_natCast]); (repeat (refine V.s1 ?_; (try simp only [eo, Int.toNat_natCast]))); exact ⟨rfl⟩)); (conv => whnf); (try simp only [eo, Int.toNat_natCast])) | ((try ((with_reducible refine .ext ?_); (conv => whnf); (try simp only [eo, Int.toNat_natCast]))); (with_reducible refine call_intro (r := ?_) ?_ ?_); rotate_left; (focus (first | exact (within_c _ _ _))); (conv => whnf); (try simp only [eo, Int.toNat_natCast])))
      refine Cnd.split (CondB.mk (fun hb => ?_) (fun hb => ?_))
      · have hE := hE2 (pkIn_no ho3 (by simp at hb; omega))
        (conv => whnf)
        refine V.st ?_
        unfold pkR
        rw [hE]
        exact Fin.tup ⟨Fin.agg ⟨Fin.nil _, Fin.of rfl, Fin.nil _, trivial⟩, Fin.of rfl, trivial⟩
      · (conv => whnf)
        refine V.st ?_
        exact ⟨k + 1, ⟨by omega, (by rw [List.take_add_one, List.all_append, hI, ho3]; simp at hb ⊢; omega)⟩, by omega, V.wk⟩
    · simp only [decide_eq_false_iff_not] at h
      rw [List.take_of_length_le (by omega)] at hI
      have hin : pkIn out outs = true := by unfold pkIn; rw [hI]; simp; omega
      have hp := prod_bd hG.2.2.2.2.1
      have hp2 := hp size.length
      rw [List.take_length] at hp2
      have hp3 := hp2.2.1 hG.2.1
      have hm : InR .i64 (prod size * outs.length) := by
        have h5 : 0 ≤ prod size * outs.length := Int.mul_nonneg hp2.1 (by omega)
        have h6 : prod size * outs.length ≤ 6561 * 4 := Int.mul_le_mul hp3 (by omega) (by omega) (by omega)
        simp only [V.InR, lo, V.hi]; omega
      (conv => whnf)
      refine V.st ?_
      refine ⟨(.take 0 (.take 1 (.take 3 (.take 4 (.ev (.cons 2 [4, 3] (.take 5 (.take 6 (.done))) (.nil))))))), ⟨by kernel_rfl, by kernel_rfl, by kernel_rfl⟩, .go ?_⟩
      (conv => whnf)
      refine V.st ?_
      repeat ((try ((with_reducible refine .ext ?_); (conv => whnf))); (with_reducible refine call_intro (r := ?_) ?_ ?_); rotate_left; (focus (first | exact (product_c _ (fun k _ => (hp k).2.2 hG.2.1) hs))); (conv => whnf); refine V.st ?_)
      refine Cnd.split (CondB.mk (fun h => ?_) (fun h => ?_))
      · have hE : pkErr size out data outs = 3 := by unfold pkErr; rw [hg, hin]; simp at h; simp; omega
        (conv => whnf)
        refine V.st ?_
        unfold pkR
        rw [hE]
        exact Fin.tup ⟨Fin.agg ⟨Fin.nil _, Fin.of rfl, Fin.nil _, trivial⟩, Fin.of rfl, trivial⟩
      · have hE : pkErr size out data outs = 0 := by unfold pkErr; rw [hg, hin]; simp at h; simp; omega
        obtain ⟨ns, hn0, hn1, hn2⟩ := nz_of hG.2.2.2.2.1
        have hsl : size.length = ns.length := by rw [hn0]; simp [nz]
        have hf : ∀ m, m < PR ns → Called Try.prog 47 [.iarr .i64 (pad4 (ixl ns m)), .ref [.fn 38 [gridD size out data] []], .ref [.ints .i64 outs]] (.ints .i64 (pkF out data outs m)) := fun m hm => by
          rw [← pk_val hg hn0 hn2 hin hm]
          have hil := ixl_length ns m
          have hpad := okIdx_pad (size := size) (xs := ixl ns m) (okIdx_iff.2 ⟨by omega, fun k n x h1 h2 => by
            rw [hn0] at h1
            simp only [nz, List.getElem?_map, Option.map_eq_some_iff] at h1
            obtain ⟨n', h3, rfl⟩ := h1
            exact ixl_bd (fun n hn => by have := hn2 n hn; omega) h3 h2⟩) hG.2.1
          exact pick1_c size out data _ outs hg hpad.1 hpad.2 hin
        have hfl : ∀ m, m < PR ns → (pkF out data outs m).length ≤ 4 := fun m _ => by simp [pkF]; omega
        (conv => whnf)
        (try simp only [hn0])
        repeat (first | (refine V.s1 ?_; (try simp only [hn0])) | ((with_reducible refine recheck_and ?_ ?_); (focus ((conv => whnf); (try simp only [hn0]); (repeat (refine V.s1 ?_; (try simp only [hn0]))); exact ⟨rfl⟩)); (conv => whnf); (try simp only [hn0])) | ((try ((with_reducible refine .ext ?_); (conv => whnf); (try simp only [hn0]))); (with_reducible refine call_intro (r := ?_) ?_ ?_); rotate_left; (focus (first | exact (gathered2_c _ _ _ _ _ _ _ _ (by omega) hn2 hfl (hn0 ▸ hf)))); (conv => whnf); (try simp only [hn0])))
        unfold pkR
        rw [← hn0, hE]
        simp only [if_true]
        unfold pkData
        rw [hn1]
        exact Fin.of rfl
end Go.Proofs.Ytfhmfpneiagakaa
