/- What some functions of the program answer at values that mean given lists and numbers, each proved of the program's own code. Conditions: those that each theorem names. -/
import Derived.Test.YtfhmfpneiagakaaT7
import Derived.Test.YtfhmfpneiagakaaT11
import Derived.Test.YtfhmfpneiagakaaV9
set_option linter.unusedSimpArgs false
set_option linter.unusedVariables false
set_option maxHeartbeats 8000000
set_option maxRecDepth 100000
namespace Go.Proofs.Ytfhmfpneiagakaa
open Go Go.V Go.Gr
def mkV0 (vals : List Int) (w m k : Nat) : Int := if 0 < vals.length then vals.getD ((m * w + k) % vals.length) 0 else 0
def mkV (vals : List Int) (sm : Bool) (ns : List Nat) (w m k : Nat) : Int :=
  if sm then 60000 * (ixl ns m).getD (k % ns.length) 0 / ((nz ns).getD (k % ns.length) 0 - 1) + mkV0 vals w m k % 5000 else mkV0 vals w m k
def mkF (vals : List Int) (sm : Bool) (ns : List Nat) (w m : Nat) : List Int := (List.range w).map (mkV vals sm ns w m)
theorem getD_mem {xs : List Int} {i : Nat} (h : i < xs.length) : xs.getD i 0 ∈ xs := by
  rw [List.getD_eq_getElem?_getD, List.getElem?_eq_getElem h]; simp
theorem mkV0_bd {vals : List Int} {w m k : Nat} (hv : ∀ v ∈ vals, 0 ≤ v ∧ v ≤ 65535) : 0 ≤ mkV0 vals w m k ∧ mkV0 vals w m k ≤ 65535 := by
  unfold mkV0
  split
  · rename_i h
    exact hv _ (getD_mem (Nat.mod_lt _ h))
  · omega
theorem mk_sm {ns : List Nat} {m k : Nat} (h1 : 1 ≤ ns.length) (h2 : ∀ n ∈ ns, 2 ≤ n ∧ n ≤ 9) : 0 ≤ (ixl ns m).getD (k % ns.length) 0 ∧ (ixl ns m).getD (k % ns.length) 0 ≤ 8 ∧ 1 ≤ (nz ns).getD (k % ns.length) 0 - 1 ∧ (nz ns).getD (k % ns.length) 0 - 1 ≤ 8 ∧
    0 ≤ 60000 * (ixl ns m).getD (k % ns.length) 0 / ((nz ns).getD (k % ns.length) 0 - 1) ∧ 60000 * (ixl ns m).getD (k % ns.length) 0 / ((nz ns).getD (k % ns.length) 0 - 1) ≤ 60000 := by
  have hlt : k % ns.length < ns.length := Nat.mod_lt _ (by omega)
  generalize k % ns.length = i at *
  obtain ⟨n, hn⟩ : ∃ n, ns[i]? = some n := ⟨_, List.getElem?_eq_getElem hlt⟩
  obtain ⟨x, hx⟩ : ∃ x, (ixl ns m)[i]? = some x := ⟨_, List.getElem?_eq_getElem (by rw [ixl_length]; exact hlt)⟩
  have hnb := h2 n (List.mem_of_getElem? hn)
  have hxb := ixl_bd (fun n hn => by have := h2 n hn; omega) hn hx
  have e1 : (nz ns).getD i 0 = n := by simp [nz, List.getD_eq_getElem?_getD, hn]
  have e2 : (ixl ns m).getD i 0 = x := by rw [List.getD_eq_getElem?_getD, hx]; rfl
  rw [e1, e2]
  refine ⟨hxb.1, by omega, by omega, by omega, Int.ediv_nonneg (by omega) (by omega), ?_⟩
  exact Int.ediv_le_of_le_mul (by omega) (by omega)
theorem mkV_bd {vals : List Int} {sm : Bool} {ns : List Nat} {w m k : Nat} (hv : ∀ v ∈ vals, 0 ≤ v ∧ v ≤ 65535) (h1 : 1 ≤ ns.length) (h2 : ∀ n ∈ ns, 2 ≤ n ∧ n ≤ 9) : 0 ≤ mkV vals sm ns w m k ∧ mkV vals sm ns w m k ≤ 65535 := by
  have h3 := mkV0_bd (w := w) (m := m) (k := k) hv
  have h4 := mk_sm (m := m) (k := k) h1 h2
  unfold mkV
  split <;> omega
theorem made_c (ds : List Int) (o : Int) (vals : List Int) (sm : Bool) (ns : List Nat) (w : Nat) (hv : ∀ v ∈ vals, 0 ≤ v ∧ v ≤ 65535) (hvl : vals.length ≤ 281474976710656) (h1 : 1 ≤ ns.length ∧ ns.length ≤ 4) (h2 : ∀ n ∈ ns, 2 ≤ n ∧ n ≤ 9) (hw : 1 ≤ w ∧ w ≤ 4) :
    Called Try.prog 48 [.agg [.ints .u8 ds, .int .u8 o, .ints .u16 vals, .bool sm], .ints .i64 (nz ns), .int .i64 w] (gridD (nz ns) w (flat ns (mkF vals sm ns w) (PR ns))) := by
  have hlen : (nz ns).length = ns.length := by simp [nz]
  have hPR := PR_le h1.2 h2
  have hprod : prod (nz ns) = (PR ns : Nat) := prod_nz ns
  have hpz : ∀ k, InR .i64 (prod ((nz ns).take k)) := fun k => (prod_bd (size := nz ns) (by
    rw [List.all_eq_true]
    intro x hx
    obtain ⟨n, hn, rfl⟩ := List.mem_map.1 hx
    have := h2 n hn
    simp; omega) k).2.2 (by omega)
  have hfl : ∀ j, (mkF vals sm ns w j).length ≤ 4 := fun j => by simp [mkF]; omega
  refine called_of_run tbOk 6 ⟨Try.func48, rfl, rfl, Nat.le_of_ble_eq_true rfl⟩ ?_
  (conv => whnf)
  (conv => whnf)
  (try simp only [Nat.zero_add])
  repeat (first | (refine V.s1 ?_; (try simp only [Nat.zero_add])) | ((with_reducible refine recheck_and ?_ ?_); (focus ((conv => whnf); (try simp only [Nat.zero_add]); (repeat (refine V.s1 ?_; (try simp only [Nat.zero_add]))); exact ⟨rfl⟩)); (conv => whnf); (try simp only [Nat.zero_add])))
  refine Lp.ghostBox 72 7 2 .i64 (by decide) (by decide) ?_
  (conv => whnf)
  refine lp_any (0) (fun k => k ≤ PR ns) (fun k => PR ns - k) (fun k => [(8, .int .i64 k)]) (fun k => [(7, .box [.ints .i64 (nz ns), .int .i64 w, .osl 72 0 (flat ns (mkF vals sm ns w) k).length]), (72, .arr .i64 (flat ns (mkF vals sm ns w) k))]) ?_ ?_ ?_
  · exact V.wk
  · exact Nat.zero_le _
  intro m hm
  have hfm := flat_len (ns := ns) (m := m) (fun j _ => hfl j)
  (conv => whnf)
  (try simp only [hprod])
  repeat (first | (refine V.s1 ?_; (try simp only [hprod])) | ((with_reducible refine recheck_and ?_ ?_); (focus ((conv => whnf); (try simp only [hprod]); (repeat (refine V.s1 ?_; (try simp only [hprod]))); exact ⟨rfl⟩)); (conv => whnf); (try simp only [hprod])) | ((try ((with_reducible refine .ext ?_); (conv => whnf); (try simp only [hprod]))); (with_reducible refine call_intro (r := ?_) ?_ ?_); rotate_left; (focus (first | exact (points_c _ (fun k _ => hpz k) (by omega)))); (conv => whnf); (try simp only [hprod])))
  refine Cnd.split (CondB.mk (fun hq => ?_) (fun hq => ?_))
  · rw [decide_eq_true_eq] at hq
    have hm1 : m < PR ns := by omega
    (conv => whnf)
    refine V.st ?_
    repeat ((try ((with_reducible refine .ext ?_); (conv => whnf))); (with_reducible refine call_intro (r := ?_) ?_ ?_); rotate_left; (focus (first | exact (rindex_c ns m (fun n hn => by have := h2 n hn; omega) (by omega) (by omega)))); (conv => whnf); refine V.st ?_)
    refine lp_any (0) (fun k => k ≤ w) (fun k => w - k) (fun k => [(10, .int .i64 k)]) (fun k => [(7, .box [.ints .i64 (nz ns), .int .i64 w, .osl 72 0 (flat ns (mkF vals sm ns w) m ++ (List.range k).map (mkV vals sm ns w m)).length]), (72, .arr .i64 (flat ns (mkF vals sm ns w) m ++ (List.range k).map (mkV vals sm ns w m)))]) ?_ ?_ ?_
    · simp only [List.range_zero, List.map_nil, List.append_nil]
      exact V.wk
    · exact Nat.zero_le _
    intro k hk
    have hb0 := mkV0_bd (w := w) (m := m) (k := k) hv
    have hbs := mk_sm (m := m) (k := k) h1.1 h2
    have hmw : (m : Int) * w = ((m * w : Nat) : Int) := by simp
    have hmw2 : m * w ≤ 6561 * 4 := Nat.mul_le_mul (by omega) (by omega)
    (conv => whnf)
    refine V.st ?_
    refine Cnd.split (CondB.mk (fun hq2 => ?_) (fun hq2 => ?_))
    · rw [decide_eq_true_eq] at hq2
      (conv => whnf)
      refine V.st ?_
      refine cnd_meet [(11, .int .i64 (mkV0 vals w m k))] [] (CondB.mk (fun hq3 => ?_) (fun hq3 => ?_)) ?_
      · rw [decide_eq_true_eq] at hq3
        have hvp : 0 < vals.length := by omega
        have e1 : ((((m * w : Nat) : Int) + k) % vals.length).toNat = (m * w + k) % vals.length := by
          rw [← Int.natCast_add, ← Int.natCast_emod, Int.toNat_natCast]
        have e2 : vals.getD ((m * w + k) % vals.length) 0 = mkV0 vals w m k := by unfold mkV0; rw [if_pos hvp]
        have e3 := Int.emod_nonneg (((m * w : Nat) : Int) + k) (b := vals.length) (by omega)
        have e4 := Int.emod_lt_of_pos (((m * w : Nat) : Int) + k) (b := vals.length) (by omega)
        (conv => whnf)
        refine V.st ?_
        refine ⟨(.take 0 (.take 1 (.take 2 (.take 3 (.take 4 (.take 5 (.take 6 (.take 7 (.take 8 (.take 9 (.take 10 (.take 11 (.take 12 (.take 13 (.take 14 (.done)))))))))))))))), ⟨by kernel_rfl, by kernel_rfl, by kernel_rfl⟩, .go ?_⟩
        (conv => whnf)
        (try simp only [hmw, e1, e2])
        repeat (first | (refine V.s1 ?_; (try simp only [hmw, e1, e2])) | ((with_reducible refine recheck_and ?_ ?_); (focus ((conv => whnf); (try simp only [hmw, e1, e2]); (repeat (refine V.s1 ?_; (try simp only [hmw, e1, e2]))); exact ⟨rfl⟩)); (conv => whnf); (try simp only [hmw, e1, e2])))
        exact V.wk
      · rw [decide_eq_false_iff_not] at hq3
        have e2 : mkV0 vals w m k = 0 := by unfold mkV0; rw [if_neg (by omega)]
        rw [e2]
        (conv => whnf)
        refine V.st ?_
        exact V.wk
      (conv => whnf)
      refine V.st ?_
      refine cnd_meet [(11, .int .i64 (mkV vals sm ns w m k))] [] (CondB.mk (fun hq3 => ?_) (fun hq3 => ?_)) ?_
      · have hli := ixl_length ns m
        have hki : (k : Int) % (ns.length : Int) = ((k % ns.length : Nat) : Int) := by simp
        have hkl : k % ns.length < ns.length := Nat.mod_lt _ (by omega)
        have e2 : mkV vals sm ns w m k = 60000 * (ixl ns m).getD (k % ns.length) 0 / ((nz ns).getD (k % ns.length) 0 - 1) + mkV0 vals w m k % 5000 := by unfold mkV; rw [hq3]; rfl
        rw [e2]
        generalize mkV0 vals w m k = v0 at *
        generalize hgi : k % ns.length = i at *
        (conv => whnf)
        (try simp only [hlen, hki, Int.toNat_natCast])
        repeat (first | (refine V.s1 ?_; (try simp only [hlen, hki, Int.toNat_natCast])) | ((with_reducible refine recheck_and ?_ ?_); (focus ((conv => whnf); (try simp only [hlen, hki, Int.toNat_natCast]); (repeat (refine V.s1 ?_; (try simp only [hlen, hki, Int.toNat_natCast]))); exact ⟨rfl⟩)); (conv => whnf); (try simp only [hlen, hki, Int.toNat_natCast])))
        refine ⟨(.take 0 (.take 1 (.take 2 (.take 3 (.take 4 (.take 5 (.take 6 (.take 7 (.take 8 (.take 9 (.take 10 (.take 11 (.take 12 (.take 13 (.ev (.cons 14 [] (.done) (.nil))))))))))))))))), ⟨by kernel_rfl, by kernel_rfl, by kernel_rfl⟩, .go ?_⟩
        (conv => whnf)
        (try simp only [hlen, hki, Int.toNat_natCast])
        repeat (first | (refine V.s1 ?_; (try simp only [hlen, hki, Int.toNat_natCast])) | ((with_reducible refine recheck_and ?_ ?_); (focus ((conv => whnf); (try simp only [hlen, hki, Int.toNat_natCast]); (repeat (refine V.s1 ?_; (try simp only [hlen, hki, Int.toNat_natCast]))); exact ⟨rfl⟩)); (conv => whnf); (try simp only [hlen, hki, Int.toNat_natCast])))
        exact V.wk
      · have e2 : mkV vals sm ns w m k = mkV0 vals w m k := by unfold mkV; rw [hq3]; rfl
        rw [e2]
        (conv => whnf)
        refine V.st ?_
        exact V.wk
      have hst : flat ns (mkF vals sm ns w) m ++ (List.range k).map (mkV vals sm ns w m) ++ [mkV vals sm ns w m k] = flat ns (mkF vals sm ns w) m ++ (List.range (k + 1)).map (mkV vals sm ns w m) := by
        rw [List.range_succ]; simp
      have hst2 : (flat ns (mkF vals sm ns w) m ++ (List.range k).map (mkV vals sm ns w m)).length + 1 = (flat ns (mkF vals sm ns w) m ++ (List.range (k + 1)).map (mkV vals sm ns w m)).length := by rw [← hst]; simp; omega
      (conv => whnf)
      refine V.st ?_
      try refine And.intro (fun _ => ⟨rfl, by simp; omega⟩) ?_
      (conv => whnf)
      (try simp only [Nat.zero_add, List.drop_zero, List.take_succ_cons, List.take_zero, List.length_cons, List.length_nil, hst, hst2])
      repeat (first | (refine V.s1 ?_; (try simp only [Nat.zero_add, List.drop_zero, List.take_succ_cons, List.take_zero, List.length_cons, List.length_nil, hst, hst2])) | ((with_reducible refine recheck_and ?_ ?_); (focus ((conv => whnf); (try simp only [Nat.zero_add, List.drop_zero, List.take_succ_cons, List.take_zero, List.length_cons, List.length_nil, hst, hst2]); (repeat (refine V.s1 ?_; (try simp only [Nat.zero_add, List.drop_zero, List.take_succ_cons, List.take_zero, List.length_cons, List.length_nil, hst, hst2]))); exact ⟨rfl⟩)); (conv => whnf); (try simp only [Nat.zero_add, List.drop_zero, List.take_succ_cons, List.take_zero, List.length_cons, List.length_nil, hst, hst2])))
      exact ⟨k + 1, by omega, by omega, V.wk⟩
    · rw [decide_eq_false_iff_not] at hq2
      have hkw : k = w := by omega
      subst hkw
      have hfs : flat ns (mkF vals sm ns k) m ++ (List.range k).map (mkV vals sm ns k m) = flat ns (mkF vals sm ns k) (m + 1) := (flat_succ _ _ _).symm
      rw [hfs]
      (conv => whnf)
      refine V.st ?_
      exact ⟨m + 1, by omega, by omega, V.wk⟩
  · rw [decide_eq_false_iff_not] at hq
    have hm1 : m = PR ns := by omega
    subst hm1
    (conv => whnf)
    refine V.st ?_
    rw [List.take_of_length_le (Nat.le_refl _)]
    exact Fin.of rfl
end Go.Proofs.Ytfhmfpneiagakaa
