/- What some functions of the program answer at values that mean given lists and numbers, each proved of the program's own code. Conditions: those that each theorem names. -/
import Derived.Test.YtfhmfpneiagakaaT7
import Derived.Test.YtfhmfpneiagakaaT9
set_option linter.unusedSimpArgs false
set_option linter.unusedVariables false
set_option maxHeartbeats 8000000
set_option maxRecDepth 100000
namespace Go.Proofs.Ytfhmfpneiagakaa
open Go Go.V Go.Gr
def swf (size : List Int) (out : Int) (data : List Int) (ns : List Nat) (a b : Nat) (m : Nat) : List Int := slot data (pz (size.zip (swp (ixl ns m) a b)) * out) out
theorem rswap_c (size : List Int) (out : Int) (data : List Int) (a b : Int) (hs : size.length ≤ 281474976710656) (hd : data.length ≤ 281474976710656) :
    Called Try.prog 19 [gridD size out data, .int .i64 a, .int .i64 b] (swR size out data a b) := by
  refine called_of_run tbOk 6 ⟨Try.func19, rfl, rfl, Nat.le_of_ble_eq_true rfl⟩ ?_
  (conv => whnf)
  refine V.st ?_
  repeat ((try ((with_reducible refine .ext ?_); (conv => whnf))); (with_reducible refine call_intro (r := ?_) ?_ ?_); rotate_left; (focus (first | exact (right_c _ _ _ hs hd))); (conv => whnf); refine V.st ?_)
  cases hg : okGrid size out data with
  | false =>
    have hE : swErr size out data a b = 100 := by unfold swErr; rw [hg]; rfl
    refine Cnd.split (CondB.mk (fun h => ?_) (fun h => ?_))
    · (conv => whnf)
      refine V.st ?_
      unfold swR
      rw [hE]
      exact Fin.tup ⟨Fin.agg ⟨Fin.nil _, Fin.of rfl, Fin.nil _, trivial⟩, Fin.of rfl, trivial⟩
    · simp at h
  | true =>
    have hG := okGrid_iff hg
    refine Cnd.split (CondB.mk (fun h => ?_) (fun h => ?_))
    · simp at h
    clear h
    (conv => whnf)
    refine V.st ?_
    repeat ((try ((with_reducible refine .ext ?_); (conv => whnf))); (with_reducible refine call_intro (r := ?_) ?_ ?_); rotate_left; (focus (first | exact (rwithin_c _ _ _))); (conv => whnf); refine V.st ?_)
    refine Cnd.split (CondB.mk (fun h => ?_) (fun h => ?_))
    · have hE : swErr size out data a b = 2 := by
        unfold swErr; rw [hg, if_pos rfl, if_neg]
        simp at h; omega
      (conv => whnf)
      refine V.st ?_
      unfold swR
      rw [hE]
      exact Fin.tup ⟨Fin.agg ⟨Fin.nil _, Fin.of rfl, Fin.nil _, trivial⟩, Fin.of rfl, trivial⟩
    have hab : (0 ≤ a ∧ a ≤ (size.length : Int) - 1) ∧ 0 ≤ b ∧ b ≤ (size.length : Int) - 1 := by simp at h; omega
    clear h
    obtain ⟨a, rfl⟩ : ∃ x : Nat, a = x := ⟨a.toNat, by omega⟩
    obtain ⟨b, rfl⟩ : ∃ x : Nat, b = x := ⟨b.toNat, by omega⟩
    have hE : swErr size out data a b = 0 := by
      unfold swErr; rw [hg, if_pos rfl, if_pos hab]
    obtain ⟨ns0, hn0, hn1, hn2⟩ := nz_of hG.2.2.2.2.1
    have hsl : size.length = ns0.length := by rw [hn0]; simp [nz]
    have hal : a < ns0.length := by omega
    have hbl : b < ns0.length := by omega
    have hsw : (size.set a (size.getD b 0)).set b (size.getD a 0) = nz (swn ns0 a b) := by rw [hn0]; exact swp_map hal hbl
    have hmap : (swp size a b).map Int.toNat = swn ns0 a b := by unfold swp; rw [hsw]; unfold nz; rw [List.map_map]; exact List.map_id' _
    have hswl := swn_length ns0 a b
    have hsb : ∀ n ∈ swn ns0 a b, 2 ≤ n ∧ n ≤ 9 := fun n hn => hn2 n (mem_swn hal hbl hn)
    have hp := prod_bd hG.2.2.2.2.1
    (conv => whnf)
    refine V.st ?_
    have hap : ([] : List Int).length = 0 ∧ 0 + size.length ≤ 17592186044416 := ⟨rfl, by omega⟩
    refine ⟨(.take 1 (.take 2 (.take 4 (.take 5 (.ev (.cons 0 [5, 4, 2, 1] (.ev (.cons 3 [5, 4] (.take 6 (.ev (.cons 7 [6, 5, 4] (.ev (.cons 8 [] (.done) (.nil))) (.nil)))) (.cons 7 [5, 4, 2, 1] (.ev (.cons 3 [5, 4] (.take 6 (.ev (.cons 8 [] (.done) (.nil)))) (.nil))) (.nil)))) (.cons 7 [5, 4, 2, 1] (.ev (.cons 0 [5, 4, 2, 1] (.ev (.cons 3 [5, 4] (.take 6 (.ev (.cons 8 [] (.done) (.nil)))) (.nil))) (.nil))) (.nil)))))))), ⟨by kernel_rfl, by kernel_rfl, by kernel_rfl⟩, ?_⟩
    refine drw_meet [(8, .box 8 0)] [(8, .box [.osl 38 0 size.length, .int .i64 out, .nil]), (38, .arr .i64 size)] ?_ ?_
    · (conv => whnf); (try simp only [List.nil_append, Int.toNat_natCast, Nat.zero_add, Nat.add_zero])
      repeat' (first | exact V.wk | (refine V.s1 ?_; (try simp only [List.nil_append, Int.toNat_natCast, Nat.zero_add, Nat.add_zero])) | ((with_reducible refine recheck_and ?_ ?_); (focus ((conv => whnf); (try simp only [List.nil_append, Int.toNat_natCast, Nat.zero_add, Nat.add_zero]); (repeat (refine V.s1 ?_; (try simp only [List.nil_append, Int.toNat_natCast, Nat.zero_add, Nat.add_zero]))); exact ⟨rfl⟩)); (conv => whnf); (try simp only [List.nil_append, Int.toNat_natCast, Nat.zero_add, Nat.add_zero])) | ((try ((with_reducible refine .ext ?_); (conv => whnf); (try simp only [List.nil_append, Int.toNat_natCast, Nat.zero_add, Nat.add_zero]))); (with_reducible refine call_intro (r := ?_) ?_ ?_); rotate_left; (focus (first | fail)); (conv => whnf); (try simp only [List.nil_append, Int.toNat_natCast, Nat.zero_add, Nat.add_zero])) | (refine And.intro ?_ ?_ <;> (conv => whnf); (try simp only [List.nil_append, Int.toNat_natCast, Nat.zero_add, Nat.add_zero])))
      all_goals trace_state
    (conv => whnf)
    (try simp only [List.nil_append, Int.toNat_natCast, Nat.zero_add, Nat.add_zero])
    repeat (first | (refine V.s1 ?_; (try simp only [List.nil_append, Int.toNat_natCast, Nat.zero_add, Nat.add_zero])) | ((with_reducible refine recheck_and ?_ ?_); (focus ((conv => whnf); (try simp only [List.nil_append, Int.toNat_natCast, Nat.zero_add, Nat.add_zero]); (repeat (refine V.s1 ?_; (try simp only [List.nil_append, Int.toNat_natCast, Nat.zero_add, Nat.add_zero]))); exact ⟨rfl⟩)); (conv => whnf); (try simp only [List.nil_append, Int.toNat_natCast, Nat.zero_add, Nat.add_zero])))
    refine ⟨(.take 0 (.take 1 (.take 2 (.take 3 (.take 4 (.take 5 (.take 6 (.take 7 (.take 8 (.ev (.cons 9 [] (.done) (.nil)))))))))))), ⟨by kernel_rfl, by kernel_rfl, by kernel_rfl⟩, .go ?_⟩
    (conv => whnf)
    (try simp only [List.nil_append, Int.toNat_natCast, Nat.zero_add, Nat.add_zero, List.length_set])
    repeat (first | (refine V.s1 ?_; (try simp only [List.nil_append, Int.toNat_natCast, Nat.zero_add, Nat.add_zero, List.length_set])) | ((with_reducible refine recheck_and ?_ ?_); (focus ((conv => whnf); (try simp only [List.nil_append, Int.toNat_natCast, Nat.zero_add, Nat.add_zero, List.length_set]); (repeat (refine V.s1 ?_; (try simp only [List.nil_append, Int.toNat_natCast, Nat.zero_add, Nat.add_zero, List.length_set]))); exact ⟨rfl⟩)); (conv => whnf); (try simp only [List.nil_append, Int.toNat_natCast, Nat.zero_add, Nat.add_zero, List.length_set])))
    refine ⟨(.take 0 (.take 1 (.take 2 (.take 3 (.take 4 (.take 5 (.take 6 (.take 7 (.take 8 (.ev (.cons 9 [] (.done) (.nil)))))))))))), ⟨by kernel_rfl, by kernel_rfl, by kernel_rfl⟩, .go ?_⟩
    (conv => whnf)
    (try simp only [List.nil_append, Int.toNat_natCast, Nat.zero_add, Nat.add_zero, List.length_set, hsw])
    repeat (first | (refine V.s1 ?_; (try simp only [List.nil_append, Int.toNat_natCast, Nat.zero_add, Nat.add_zero, List.length_set, hsw])) | ((with_reducible refine recheck_and ?_ ?_); (focus ((conv => whnf); (try simp only [List.nil_append, Int.toNat_natCast, Nat.zero_add, Nat.add_zero, List.length_set, hsw]); (repeat (refine V.s1 ?_; (try simp only [List.nil_append, Int.toNat_natCast, Nat.zero_add, Nat.add_zero, List.length_set, hsw]))); exact ⟨rfl⟩)); (conv => whnf); (try simp only [List.nil_append, Int.toNat_natCast, Nat.zero_add, Nat.add_zero, List.length_set, hsw])))
    refine Lp.ghostBox 102 8 2 .i64 (by decide) (by decide) ?_
    (conv => whnf)
    have hposn : ∀ n ∈ swn ns0 a b, 0 < n := fun n hn => by have := hsb n hn; omega
    have hPR : PR (swn ns0 a b) ≤ 6561 := PR_le (by omega) hsb
    have hprod : prod size = (PR (swn ns0 a b) : Nat) := by
      rw [hn0, prod_nz, PR_swn hal hbl]
    refine lp_any (0) (fun k => k ≤ PR (swn ns0 a b)) (fun k => PR (swn ns0 a b) - k) (fun k => [(9, .int .i64 k)]) (fun k => [(8, .box [.osl 38 0 size.length, .int .i64 out, .osl 102 0 (flat (swn ns0 a b) (swf size out data (swn ns0 a b) a b) k).length]), (102, .arr .i64 (flat (swn ns0 a b) (swf size out data (swn ns0 a b) a b) k))]) ?_ ?_ ?_
    · exact V.wk
    · exact Nat.zero_le _
    intro m hm
    have hfl : (flat (swn ns0 a b) (swf size out data (swn ns0 a b) a b) m).length ≤ 4 * m := flat_len (fun j _ => by simp [swf, slot]; omega)
    (conv => whnf)
    (try simp only [hprod])
    repeat (first | (refine V.s1 ?_; (try simp only [hprod])) | ((with_reducible refine recheck_and ?_ ?_); (focus ((conv => whnf); (try simp only [hprod]); (repeat (refine V.s1 ?_; (try simp only [hprod]))); exact ⟨rfl⟩)); (conv => whnf); (try simp only [hprod])) | ((try ((with_reducible refine .ext ?_); (conv => whnf); (try simp only [hprod]))); (with_reducible refine call_intro (r := ?_) ?_ ?_); rotate_left; (focus (first | exact (points_c _ (fun k _ => (hp k).2.2 hG.2.1) hs))); (conv => whnf); (try simp only [hprod])))
    refine Cnd.split (CondB.mk (fun h => ?_) (fun h => ?_))
    · simp only [decide_eq_true_eq] at h
      have hm1 : m < PR (swn ns0 a b) := by omega
      (conv => whnf)
      refine V.st ?_
      refine .inl ?_
      (conv => whnf)
      refine ⟨0, _, _, ⟨Try.func44, rfl, rfl, Nat.le_of_ble_eq_true rfl⟩, ?_⟩
      (conv => whnf)
      try refine And.intro (fun _ => ⟨by omega, by omega, by omega⟩) ?_
      (conv => whnf)
      (try simp only [Int.toNat_natCast, Nat.zero_add, Nat.add_zero])
      repeat (first | (refine V.s1 ?_; (try simp only [Int.toNat_natCast, Nat.zero_add, Nat.add_zero])) | ((with_reducible refine recheck_and ?_ ?_); (focus ((conv => whnf); (try simp only [Int.toNat_natCast, Nat.zero_add, Nat.add_zero]); (repeat (refine V.s1 ?_; (try simp only [Int.toNat_natCast, Nat.zero_add, Nat.add_zero]))); exact ⟨rfl⟩)); (conv => whnf); (try simp only [Int.toNat_natCast, Nat.zero_add, Nat.add_zero])))
      have hil := ixl_length (swn ns0 a b) m
      have hbd : ∀ (k : Nat) (n x : Int), (swp size a b)[k]? = some n → (ixl (swn ns0 a b) m)[k]? = some x → 0 ≤ x ∧ x ≤ n - 1 := fun k n x h1 h2 => by
        unfold swp at h1
        rw [hsw] at h1
        simp only [nz, List.getElem?_map, Option.map_eq_some_iff] at h1
        obtain ⟨n', h3, rfl⟩ := h1
        exact ixl_bd hposn h3 h2
      have hbd2 := swp_bd (by omega) (by omega) (by omega) hbd
      have hok : okIdx size (swp (ixl (swn ns0 a b) m) a b) = true := okIdx_iff.2 ⟨by rw [swp_length]; omega, hbd2⟩
      have hlast := pz_last hg (by rw [swp_length]; omega) hbd2
      have hx4 : (swp (ixl (swn ns0 a b) m) a b).length ≤ 281474976710656 := by rw [swp_length]; omega
      have htk2 : List.take size.length (((ixl (swn ns0 a b) m).set a ((ixl (swn ns0 a b) m).getD b 0)).set b ((ixl (swn ns0 a b) m).getD a 0)) = swp (ixl (swn ns0 a b) m) a b := by
        rw [List.take_of_length_le (by simp; omega)]; rfl
      have e0 : List.replicate size.length (0 : Int) = List.replicate size.length 0 ++ (ixl (swn ns0 a b) m).drop size.length := by
        rw [List.drop_of_length_le (by omega), List.append_nil]
      have e1 : (m : Int) = ((m / PR ((swn ns0 a b).drop size.length) : Nat) : Int) := by
        rw [List.drop_of_length_le (by omega)]; simp [PR]
      refine lp_any (size.length) (fun k => k ≤ size.length) (fun k => k) (fun k => [(1, .int .i64 ((m / PR ((swn ns0 a b).drop k) : Nat) : Int)), (6, .int .i64 ((k : Int) - 1))]) (fun k => [(115, .arr .i64 (List.replicate k 0 ++ (ixl (swn ns0 a b) m).drop k))]) ?_ ?_ ?_
      · rw [← e0, ← e1]
        exact V.wk
      · exact Nat.le_refl _
      intro p hpl
      (conv => whnf)
      refine V.st ?_
      refine Cnd.split (CondB.mk (fun hq => ?_) (fun hq => ?_))
      · have hp0 : 0 < p := by simp at hq; omega
        obtain ⟨p, rfl⟩ : ∃ q, p = q + 1 := ⟨p - 1, by omega⟩
        have hp1 : p < (swn ns0 a b).length := by omega
        obtain ⟨n, hn⟩ : ∃ n, (swn ns0 a b)[p]? = some n := ⟨_, List.getElem?_eq_getElem hp1⟩
        have hn0 := hsb n (List.mem_of_getElem? hn)
        have en : (nz (swn ns0 a b)).getD p 0 = n := by simp [nz, List.getD_eq_getElem?_getD, hn]
        have e2 : (((p + 1 : Nat) : Int) - 1) = (p : Int) := by omega
        have hst := index_step (m := m) hn hp1
        have e3 : ((m / PR ((swn ns0 a b).drop (p + 1)) : Nat) : Int) % (n : Int) = ((m / PR ((swn ns0 a b).drop (p + 1)) % n : Nat) : Int) := by simp
        have e4 : ((m / PR ((swn ns0 a b).drop (p + 1)) : Nat) : Int) / (n : Int) = ((m / PR ((swn ns0 a b).drop p) : Nat) : Int) := by rw [← hst.2]; simp
        have hl2 : (List.replicate (p + 1) (0 : Int) ++ (ixl (swn ns0 a b) m).drop (p + 1)).length = size.length := by simp [ixl_length]; omega
        have hl3 : m / PR ((swn ns0 a b).drop (p + 1)) ≤ m := Nat.div_le_self _ _
        have hl4 : (nz (swn ns0 a b)).length = size.length := by simp [nz]; omega
        generalize hqq : m / PR ((swn ns0 a b).drop (p + 1)) = q at *
        (conv => whnf)
        (try simp only [e2, en, Int.toNat_natCast, Nat.zero_add])
        repeat (first | (refine V.s1 ?_; (try simp only [e2, en, Int.toNat_natCast, Nat.zero_add])) | ((with_reducible refine recheck_and ?_ ?_); (focus ((conv => whnf); (try simp only [e2, en, Int.toNat_natCast, Nat.zero_add]); (repeat (refine V.s1 ?_; (try simp only [e2, en, Int.toNat_natCast, Nat.zero_add]))); exact ⟨rfl⟩)); (conv => whnf); (try simp only [e2, en, Int.toNat_natCast, Nat.zero_add])))
        rw [e3, hst.1]
        refine V.st ?_
        rw [e4]
        exact ⟨p, by omega, by omega, V.wk⟩
      · have hp0 : p = 0 := by simp at hq; omega
        subst hp0
        have h0 : (List.replicate 0 (0 : Int) ++ (ixl (swn ns0 a b) m).drop 0) = ixl (swn ns0 a b) m := by simp
        rw [h0]
        have hsl5 : List.drop (pz (size.zip (swp (ixl (swn ns0 a b) m) a b)) * out).toNat (List.take (pz (size.zip (swp (ixl (swn ns0 a b) m) a b)) * out + out).toNat data) = slot data (pz (size.zip (swp (ixl (swn ns0 a b) m) a b)) * out) out := slot_app hlast.1 (by omega) hlast.2
        have hsl6 : (slot data (pz (size.zip (swp (ixl (swn ns0 a b) m) a b)) * out) out).length ≤ 4 := by simp [slot]; omega
        have hfs : flat (swn ns0 a b) (swf size out data (swn ns0 a b) a b) m ++ slot data (pz (size.zip (swp (ixl (swn ns0 a b) m) a b)) * out) out = flat (swn ns0 a b) (swf size out data (swn ns0 a b) a b) (m + 1) := (flat_succ _ _ _).symm
        have hfs2 : (flat (swn ns0 a b) (swf size out data (swn ns0 a b) a b) m).length + (slot data (pz (size.zip (swp (ixl (swn ns0 a b) m) a b)) * out) out).length = (flat (swn ns0 a b) (swf size out data (swn ns0 a b) a b) (m + 1)).length := by rw [← hfs, List.length_append]
        (conv => whnf)
        (try simp only [Int.toNat_natCast, Nat.zero_add, Nat.add_zero, List.length_set, htk2, hok, if_true])
        repeat (first | (refine V.s1 ?_; (try simp only [Int.toNat_natCast, Nat.zero_add, Nat.add_zero, List.length_set, htk2, hok, if_true])) | ((with_reducible refine recheck_and ?_ ?_); (focus ((conv => whnf); (try simp only [Int.toNat_natCast, Nat.zero_add, Nat.add_zero, List.length_set, htk2, hok, if_true]); (repeat (refine V.s1 ?_; (try simp only [Int.toNat_natCast, Nat.zero_add, Nat.add_zero, List.length_set, htk2, hok, if_true]))); exact ⟨rfl⟩)); (conv => whnf); (try simp only [Int.toNat_natCast, Nat.zero_add, Nat.add_zero, List.length_set, htk2, hok, if_true])) | ((try ((with_reducible refine .ext ?_); (conv => whnf); (try simp only [Int.toNat_natCast, Nat.zero_add, Nat.add_zero, List.length_set, htk2, hok, if_true]))); (with_reducible refine call_intro (r := ?_) ?_ ?_); rotate_left; (focus (first | exact (rplace_c _ _ _ _ hg hx4))); (conv => whnf); (try simp only [Int.toNat_natCast, Nat.zero_add, Nat.add_zero, List.length_set, htk2, hok, if_true])))
        refine ⟨(.take 0 (.take 1 (.take 2 (.take 3 (.take 4 (.take 5 (.take 6 (.take 7 (.take 8 (.take 9 (.ev (.cons 10 [] (.take 11 (.ev (.cons 12 [] (.done) (.nil)))) (.nil))))))))))))), ⟨by kernel_rfl, by kernel_rfl, by kernel_rfl⟩, .go ?_⟩
        (conv => whnf)
        (try simp only [Int.toNat_natCast, Nat.zero_add, Nat.add_zero, hsl5])
        repeat (first | (refine V.s1 ?_; (try simp only [Int.toNat_natCast, Nat.zero_add, Nat.add_zero, hsl5])) | ((with_reducible refine recheck_and ?_ ?_); (focus ((conv => whnf); (try simp only [Int.toNat_natCast, Nat.zero_add, Nat.add_zero, hsl5]); (repeat (refine V.s1 ?_; (try simp only [Int.toNat_natCast, Nat.zero_add, Nat.add_zero, hsl5]))); exact ⟨rfl⟩)); (conv => whnf); (try simp only [Int.toNat_natCast, Nat.zero_add, Nat.add_zero, hsl5])))
        try refine And.intro (fun _ => ⟨trivial, by omega⟩) ?_
        (conv => whnf)
        (try simp only [hfs, hfs2])
        repeat (first | (refine V.s1 ?_; (try simp only [hfs, hfs2])) | ((with_reducible refine recheck_and ?_ ?_); (focus ((conv => whnf); (try simp only [hfs, hfs2]); (repeat (refine V.s1 ?_; (try simp only [hfs, hfs2]))); exact ⟨rfl⟩)); (conv => whnf); (try simp only [hfs, hfs2])))
        exact ⟨m + 1, by omega, by omega, V.wk⟩
    · simp only [decide_eq_false_iff_not] at h
      have hm1 : m = PR (swn ns0 a b) := by omega
      subst hm1
      (conv => whnf)
      refine V.st ?_
      unfold swR
      rw [hE]
      simp only [if_true, Int.toNat_natCast]
      rw [List.take_of_length_le (by simp [nz]; omega), List.take_of_length_le (Nat.le_refl _), ← hsw]
      unfold swData
      rw [hmap]
      exact Fin.of rfl
end Go.Proofs.Ytfhmfpneiagakaa
