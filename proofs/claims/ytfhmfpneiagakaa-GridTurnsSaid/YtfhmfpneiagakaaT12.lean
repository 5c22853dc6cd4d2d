/- What some functions of the program answer at values that mean given lists and numbers, each proved of the program's own code. Conditions: those that each theorem names. -/
import Derived.Test.YtfhmfpneiagakaaT7
import Derived.Test.YtfhmfpneiagakaaT11
import Derived.Test.YtfhmfpneiagakaaV9
set_option linter.unusedSimpArgs false
set_option linter.unusedVariables false
set_option maxHeartbeats 8000000
set_option maxRecDepth 100000
namespace Go.Proofs.Ytfhmfpneiagakaa
open Go Go.V Go.Gr
def pkG (w : Nat) (data : List Int) (m : Nat) (o : Int) : Int := data.getD (m * (w : Int).toNat + o.toNat) 0
theorem pkIn_all {out : Int} {outs : List Int} (h : pkIn out outs = true) : ∀ o ∈ outs, 0 ≤ o ∧ o ≤ out - 1 := by
  unfold pkIn at h
  simp only [Bool.and_eq_true, decide_eq_true_eq, List.all_eq_true] at h
  exact h.2
theorem rpick_c (size : List Int) (out : Int) (data outs : List Int) (hs : size.length ≤ 281474976710656) (hd : data.length ≤ 281474976710656) (ho : outs.length ≤ 281474976710656) :
    Called Try.prog 22 [gridD size out data, .ints .i64 outs] (pkR size out data outs) := by
  refine called_of_run tbOk 6 ⟨Try.func22, rfl, rfl, Nat.le_of_ble_eq_true rfl⟩ ?_
  (conv => whnf)
  refine V.st ?_
  repeat ((try ((with_reducible refine .ext ?_); (conv => whnf))); (with_reducible refine call_intro (r := ?_) ?_ ?_); rotate_left; (focus (first | exact (right_c _ _ _ hs hd))); (conv => whnf); refine V.st ?_)
  cases hg : okGrid size out data with
  | false =>
    have hE : pkErr size out data outs = 100 := by unfold pkErr; rw [hg]; rfl
    refine Cnd.split (CondB.mk (fun h => ?_) (fun h => ?_))
    · (conv => whnf)
      refine V.st ?_
      unfold pkR
      rw [hE]
      exact Fin.tup ⟨Fin.agg ⟨Fin.nil _, Fin.of rfl, Fin.nil _, trivial⟩, Fin.of rfl, trivial⟩
    · simp at h
  | true =>
    have hG := okGrid_iff hg
    have hE2 : pkIn out outs = false → pkErr size out data outs = 2 := fun e => by unfold pkErr; rw [hg, e]; rfl
    refine Cnd.split (CondB.mk (fun h => ?_) (fun h => ?_))
    · simp at h
    clear h
    (conv => whnf)
    refine V.st ?_
    repeat ((try ((with_reducible refine .ext ?_); (conv => whnf))); (with_reducible refine call_intro (r := ?_) ?_ ?_); rotate_left; (focus (first | exact (rwithin_c _ _ _))); (conv => whnf); refine V.st ?_)
    refine Cnd.split (CondB.mk (fun h => ?_) (fun h => ?_))
    · have hE := hE2 (by unfold pkIn; simp at h; simp; omega)
      (conv => whnf)
      refine V.st ?_
      unfold pkR
      rw [hE]
      exact Fin.tup ⟨Fin.agg ⟨Fin.nil _, Fin.of rfl, Fin.nil _, trivial⟩, Fin.of rfl, trivial⟩
    have hol : 1 ≤ outs.length ∧ outs.length ≤ 4 := by simp at h; omega
    clear h
    (conv => whnf)
    refine V.st ?_
    refine lp_go (outs.length) (fun k => (outs.take k).all (fun o => decide (0 ≤ o ∧ o ≤ out - 1)) = true) (fun k => [(6, .int .i64 k)]) (fun k => []) V.wk ?_ ?_
    · rfl
    intro k hk hI
    (conv => whnf)
    refine V.st ?_
    refine Cnd.split (CondB.mk (fun h => ?_) (fun h => ?_))
    · simp only [decide_eq_true_eq] at h
      obtain ⟨o, ho3, eo⟩ := getxn (xs := outs) (k := k) (by omega)
      (conv => whnf)
      refine V.st ?_
      refine ⟨(.take 0 (.take 1 (.take 2 (.take 3 (.take 4 (.take 5 (.take 6 (.ev (.cons 7 [] (.take 8 (.done)) (.nil)))))))))), ⟨by kernel_rfl, by kernel_rfl, by kernel_rfl⟩, .go ?_⟩
      (conv => whnf)
      (try simp only [eo, Int.toNat_natCast])
      repeat (first | (refine V.s1 ?_; (try simp only [eo, Int.toNat_natCast])) | ((with_reducible refine recheck_and ?_ ?_); (focus ((conv => whnf); (try simp only [eo, Int.toNat_natCast]); (repeat (refine V.s1 ?_; (try simp only [eo, Int.toNat_natCast]))); exact ⟨rfl⟩)); (conv => whnf); (try simp only [eo, Int.toNat_natCast])) | ((try ((with_reducible refine .ext ?_); (conv => whnf); (try simp only [eo, Int.toNat_natCast]))); (with_reducible refine call_intro (r := ?_) ?_ ?_); rotate_left; (focus (first | exact (rwithin_c _ _ _))); (conv => whnf); (try simp only [eo, Int.toNat_natCast])))
      refine Cnd.split (CondB.mk (fun hb => ?_) (fun hb => ?_))
      · have hE := hE2 (pkIn_no ho3 (by simp at hb; omega))
        (conv => whnf)
        refine V.st ?_
        unfold pkR
        rw [hE]
        exact Fin.tup ⟨Fin.agg ⟨Fin.nil _, Fin.of rfl, Fin.nil _, trivial⟩, Fin.of rfl, trivial⟩
      · (conv => whnf)
        refine V.st ?_
        exact ⟨k + 1, ⟨by omega, (by rw [List.take_add_one, List.all_append, hI, ho3]; simp at hb ⊢; omega)⟩, by omega, V.wk⟩
    · simp only [decide_eq_false_iff_not] at h
      rw [List.take_of_length_le (by omega)] at hI
      have hin : pkIn out outs = true := by unfold pkIn; rw [hI]; simp; omega
      have hp := prod_bd hG.2.2.2.2.1
      have hp2 := hp size.length
      rw [List.take_length] at hp2
      have hp3 := hp2.2.1 hG.2.1
      have hm : InR .i64 (prod size * outs.length) := by
        have h5 : 0 ≤ prod size * outs.length := Int.mul_nonneg hp2.1 (by omega)
        have h6 : prod size * outs.length ≤ 6561 * 4 := Int.mul_le_mul hp3 (by omega) (by omega) (by omega)
        simp only [V.InR, lo, V.hi]; omega
      (conv => whnf)
      refine V.st ?_
      repeat ((try ((with_reducible refine .ext ?_); (conv => whnf))); (with_reducible refine call_intro (r := ?_) ?_ ?_); rotate_left; (focus (first | exact (points_c _ (fun k _ => (hp k).2.2 hG.2.1) hs))); (conv => whnf); refine V.st ?_)
      refine Cnd.split (CondB.mk (fun h => ?_) (fun h => ?_))
      · have hE : pkErr size out data outs = 3 := by unfold pkErr; rw [hg, hin]; simp at h; simp; omega
        (conv => whnf)
        refine V.st ?_
        unfold pkR
        rw [hE]
        exact Fin.tup ⟨Fin.agg ⟨Fin.nil _, Fin.of rfl, Fin.nil _, trivial⟩, Fin.of rfl, trivial⟩
      · have hE : pkErr size out data outs = 0 := by unfold pkErr; rw [hg, hin]; simp at h; simp; omega
        obtain ⟨ns, hn0, hn1, hn2⟩ := nz_of hG.2.2.2.2.1
        have hsl : size.length = ns.length := by rw [hn0]; simp [nz]
        obtain ⟨w, rfl⟩ : ∃ w : Nat, out = w := ⟨out.toNat, by omega⟩
        have hprod : prod size = (PR ns : Nat) := by rw [hn0, prod_nz]
        have hdl : (data.length : Int) = (PR ns : Nat) * (w : Int) := by rw [hG.2.2.2.2.2.2.1, hprod]
        have hPR : PR ns ≤ 6561 := PR_le (by omega) hn2
        have hpk := pkIn_all hin
        (conv => whnf)
        refine V.st ?_
        try refine And.intro (fun _ => ⟨rfl, by simp; omega⟩) ?_
        (conv => whnf)
        (try simp only [List.nil_append, Nat.zero_add, Nat.add_zero])
        repeat (first | (refine V.s1 ?_; (try simp only [List.nil_append, Nat.zero_add, Nat.add_zero])) | ((with_reducible refine recheck_and ?_ ?_); (focus ((conv => whnf); (try simp only [List.nil_append, Nat.zero_add, Nat.add_zero]); (repeat (refine V.s1 ?_; (try simp only [List.nil_append, Nat.zero_add, Nat.add_zero]))); exact ⟨rfl⟩)); (conv => whnf); (try simp only [List.nil_append, Nat.zero_add, Nat.add_zero])))
        refine Lp.ghostBox 79 7 2 .i64 (by decide) (by decide) ?_
        (conv => whnf)
        refine lp_any (0) (fun k => k ≤ PR ns) (fun k => PR ns - k) (fun k => [(8, .int .i64 k)]) (fun k => [(7, .box [.osl 46 0 size.length, .int .i64 outs.length, .osl 79 0 (flat ns (pkF w data outs) k).length]), (79, .arr .i64 (flat ns (pkF w data outs) k))]) ?_ ?_ ?_
        · exact V.wk
        · exact Nat.zero_le _
        intro m hm
        have hfl : (flat ns (pkF w data outs) m).length ≤ 4 * m := flat_len (fun j _ => by simp [pkF]; omega)
        (conv => whnf)
        (try simp only [hprod])
        repeat (first | (refine V.s1 ?_; (try simp only [hprod])) | ((with_reducible refine recheck_and ?_ ?_); (focus ((conv => whnf); (try simp only [hprod]); (repeat (refine V.s1 ?_; (try simp only [hprod]))); exact ⟨rfl⟩)); (conv => whnf); (try simp only [hprod])) | ((try ((with_reducible refine .ext ?_); (conv => whnf); (try simp only [hprod]))); (with_reducible refine call_intro (r := ?_) ?_ ?_); rotate_left; (focus (first | exact (points_c _ (fun k _ => (hp k).2.2 hG.2.1) hs))); (conv => whnf); (try simp only [hprod])))
        refine Cnd.split (CondB.mk (fun hq => ?_) (fun hq => ?_))
        · simp only [decide_eq_true_eq] at hq
          have hm1 : m < PR ns := by omega
          have hml : ((m : Int) + 1) * (w : Int) ≤ (PR ns : Nat) * (w : Int) := Int.mul_le_mul_of_nonneg_right (by omega) (by omega)
          rw [Int.add_mul] at hml
          have hm0 : 0 ≤ (m : Int) * (w : Int) := Int.mul_nonneg (by omega) (by omega)
          have hmu : (m : Int) * (w : Int) ≤ 4096 := by omega
          (conv => whnf)
          refine V.st ?_
          refine lp_any (0) (fun k => k ≤ outs.length) (fun k => outs.length - k) (fun k => [(9, .int .i64 k)]) (fun k => [(7, .box [.osl 46 0 size.length, .int .i64 outs.length, .osl 79 0 (flat ns (pkF w data outs) m ++ (outs.take k).map (pkG w data m)).length]), (79, .arr .i64 (flat ns (pkF w data outs) m ++ (outs.take k).map (pkG w data m)))]) ?_ ?_ ?_
          · simp only [List.take_zero, List.map_nil, List.append_nil]
            exact V.wk
          · exact Nat.zero_le _
          intro k hk
          (conv => whnf)
          refine V.st ?_
          refine Cnd.split (CondB.mk (fun hq2 => ?_) (fun hq2 => ?_))
          · simp only [decide_eq_true_eq] at hq2
            obtain ⟨o, ho3, eo⟩ := getxn (xs := outs) (k := k) (by omega)
            have hob := hpk o (List.mem_of_getElem? ho3)
            have e7 : data.getD ((m : Int) * w + o).toNat 0 = pkG w data m o := by
              unfold pkG
              congr 1
              obtain ⟨v, rfl⟩ : ∃ v : Nat, o = v := ⟨o.toNat, by omega⟩
              rw [← Int.natCast_mul, ← Int.natCast_add, Int.toNat_natCast, Int.toNat_natCast, Int.toNat_natCast]
            have hl3 : (flat ns (pkF w data outs) m ++ (outs.take k).map (pkG w data m)).length ≤ 30000 := by simp; omega
            have hst : flat ns (pkF w data outs) m ++ (outs.take k).map (pkG w data m) ++ [pkG w data m o] = flat ns (pkF w data outs) m ++ (outs.take (k + 1)).map (pkG w data m) := by
              rw [List.append_assoc, List.take_add_one, ho3]; simp
            have hst2 : (flat ns (pkF w data outs) m ++ (outs.take k).map (pkG w data m)).length + 1 = (flat ns (pkF w data outs) m ++ (outs.take (k + 1)).map (pkG w data m)).length := by rw [← hst]; simp; omega
            (conv => whnf)
            refine V.st ?_
            refine ⟨(.take 0 (.take 1 (.take 2 (.take 3 (.take 4 (.take 5 (.take 6 (.take 7 (.take 8 (.take 9 (.take 10 (.take 11 (.take 12 (.take 13 (.take 14 (.ev (.cons 15 [1, 0] (.ev (.cons 16 [] (.take 17 (.ev (.cons 18 [] (.done) (.nil)))) (.nil))) (.nil)))))))))))))))))), ⟨by kernel_rfl, by kernel_rfl, by kernel_rfl⟩, .go ?_⟩
            (conv => whnf)
            (try simp only [eo, Int.toNat_natCast, e7])
            repeat (first | (refine V.s1 ?_; (try simp only [eo, Int.toNat_natCast, e7])) | ((with_reducible refine recheck_and ?_ ?_); (focus ((conv => whnf); (try simp only [eo, Int.toNat_natCast, e7]); (repeat (refine V.s1 ?_; (try simp only [eo, Int.toNat_natCast, e7]))); exact ⟨rfl⟩)); (conv => whnf); (try simp only [eo, Int.toNat_natCast, e7])))
            try refine And.intro (fun _ => ⟨trivial, by simp; omega⟩) ?_
            (conv => whnf)
            (try simp only [Nat.zero_add, List.drop_zero, List.take_succ_cons, List.take_zero, List.length_cons, List.length_nil, hst, hst2])
            repeat (first | (refine V.s1 ?_; (try simp only [Nat.zero_add, List.drop_zero, List.take_succ_cons, List.take_zero, List.length_cons, List.length_nil, hst, hst2])) | ((with_reducible refine recheck_and ?_ ?_); (focus ((conv => whnf); (try simp only [Nat.zero_add, List.drop_zero, List.take_succ_cons, List.take_zero, List.length_cons, List.length_nil, hst, hst2]); (repeat (refine V.s1 ?_; (try simp only [Nat.zero_add, List.drop_zero, List.take_succ_cons, List.take_zero, List.length_cons, List.length_nil, hst, hst2]))); exact ⟨rfl⟩)); (conv => whnf); (try simp only [Nat.zero_add, List.drop_zero, List.take_succ_cons, List.take_zero, List.length_cons, List.length_nil, hst, hst2])))
            exact ⟨k + 1, by omega, by omega, V.wk⟩
          · simp only [decide_eq_false_iff_not] at hq2
            have hk2 : outs.take k = outs := List.take_of_length_le (by omega)
            rw [hk2]
            have hfs : flat ns (pkF w data outs) m ++ outs.map (pkG w data m) = flat ns (pkF w data outs) (m + 1) := (flat_succ _ _ _).symm
            rw [hfs]
            (conv => whnf)
            refine V.st ?_
            exact ⟨m + 1, by omega, by omega, V.wk⟩
        · simp only [decide_eq_false_iff_not] at hq
          have hm1 : m = PR ns := by omega
          subst hm1
          (conv => whnf)
          refine V.st ?_
          unfold pkR
          rw [hE]
          simp only [if_true]
          rw [List.take_of_length_le (Nat.le_refl _), List.take_of_length_le (Nat.le_refl _)]
          unfold pkData
          rw [hn1]
          exact Fin.of rfl
end Go.Proofs.Ytfhmfpneiagakaa
