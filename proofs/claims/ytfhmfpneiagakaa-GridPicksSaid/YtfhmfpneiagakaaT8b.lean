/- What some functions of the program answer at values that mean given lists and numbers, each proved of the program's own code. Conditions: those that each theorem names. -/
import Derived.Test.YtfhmfpneiagakaaT8
set_option linter.unusedSimpArgs false
set_option linter.unusedVariables false
set_option maxHeartbeats 8000000
set_option maxRecDepth 100000
namespace Go.Proofs.Ytfhmfpneiagakaa
open Go Go.V Go.Gr
theorem gathered2_c (ns : List Nat) (out : Int) (g : Nat) (os : List Int) (sz : List Int) (o : Int) (da : List Int) (f : Nat → List Int) (h1 : 1 ≤ ns.length ∧ ns.length ≤ 4) (h2 : ∀ n ∈ ns, 2 ≤ n ∧ n ≤ 9) (hl : ∀ m, m < PR ns → (f m).length ≤ 4)
    (hf : ∀ m, m < PR ns → Called Try.prog g [.iarr .i64 (pad4 (ixl ns m)), .ref [.fn 38 [gridD sz o da] []], .ref [.ints .i64 os]] (.ints .i64 (f m))) :
    Called Try.prog 40 [.ints .i64 (nz ns), .int .i64 out, .fn g [] [.ref [.fn 38 [gridD sz o da] []], .ref [.ints .i64 os]]] (gridD (nz ns) out (flat ns f (PR ns))) := by
  have hlen : (nz ns).length = ns.length := by simp [nz]
  refine called_of_run tbOk 6 ⟨Try.func40, rfl, rfl, Nat.le_of_ble_eq_true rfl⟩ ?_
  (conv => whnf)
  refine V.st ?_
  repeat ((try ((with_reducible refine .ext ?_); (conv => whnf))); (with_reducible refine call_intro (r := ?_) ?_ ?_); rotate_left; (focus (first | exact (all_c _))); (conv => whnf); refine V.st ?_)
  refine ⟨_, _, ⟨Try.func55, rfl, rfl, Nat.le_of_ble_eq_true rfl⟩, ?_⟩
  (conv => whnf)
  (try simp only [Nat.zero_add])
  repeat (first | (refine V.s1 ?_; (try simp only [Nat.zero_add])) | ((with_reducible refine recheck_and ?_ ?_); (focus ((conv => whnf); (try simp only [Nat.zero_add]); (repeat (refine V.s1 ?_; (try simp only [Nat.zero_add]))); exact ⟨rfl⟩)); (conv => whnf); (try simp only [Nat.zero_add])))
  refine lp_go (ns.length) (fun k => True) (fun k => [(10, .int .i64 k)]) (fun k => [(32, .arr .i64 (pad4 ((lastL ns).take k)))]) V.wk ?_ ?_
  · trivial
  intro k hk _
  (conv => whnf)
  refine V.st ?_
  refine Cnd.split (CondB.mk (fun h => ?_) (fun h => ?_))
  · rw [hlen] at h
    simp only [decide_eq_true_eq] at h
    have hk1 : k < ns.length := by omega
    obtain ⟨n, hn⟩ : ∃ n, ns[k]? = some n := ⟨ns[k], List.getElem?_eq_getElem hk1⟩
    have hn0 := h2 n (List.mem_of_getElem? hn)
    have en : (nz ns).getD k 0 = n := by simp [nz, List.getD_eq_getElem?_getD, hn]
    have hll : (lastL ns)[k]? = some ((n : Int) - 1) := by simp [lastL, hn]
    have hp4 : (pad4 ((lastL ns).take k)).length = 4 := pad4_length (by simp [lastL]; omega)
    have hps := pad4_set hll (by simp [lastL]; omega)
    (conv => whnf)
    (try simp only [en, Int.toNat_natCast, Nat.zero_add, hps])
    repeat (first | (refine V.s1 ?_; (try simp only [en, Int.toNat_natCast, Nat.zero_add, hps])) | ((with_reducible refine recheck_and ?_ ?_); (focus ((conv => whnf); (try simp only [en, Int.toNat_natCast, Nat.zero_add, hps]); (repeat (refine V.s1 ?_; (try simp only [en, Int.toNat_natCast, Nat.zero_add, hps]))); exact ⟨rfl⟩)); (conv => whnf); (try simp only [en, Int.toNat_natCast, Nat.zero_add, hps])))
    exact ⟨k + 1, ⟨by omega, trivial⟩, by omega, V.wk⟩
  · rw [hlen] at h
    simp only [decide_eq_false_iff_not] at h
    have hk1 : k = ns.length := by omega
    subst hk1
    have e0 : (lastL ns).take ns.length = lastL ns := List.take_of_length_le (by simp [lastL])
    rw [e0]
    (conv => whnf)
    refine V.st ?_
    refine Lp.ghostBox 98 7 2 .i64 (by decide) (by decide) ?_
    (conv => whnf)
    have e1 := ixl_pad0 h1 h2
    have hpos : ∀ n ∈ ns, 0 < n := fun n hn => by have := h2 n hn; omega
    refine lp_any (0) (fun k => k < PR ns) (fun k => PR ns - k) (fun k => []) (fun k => [(31, .arr .i64 (pad4 (ixl ns k))), (7, .box [.osl 14 0 (nz ns).length, .int .i64 out, .osl 98 0 (flat ns f k).length]), (98, .arr .i64 (flat ns f k))]) ?_ ?_ ?_
    · rw [e1]
      exact V.wk
    · exact PR_pos fun n hn => by have := h2 n hn; omega
    intro m hm
    have hfm := hf m hm
    have hlm := hl m hm
    have hp4 : (pad4 (ixl ns m)).length = 4 := pad4_length (by rw [ixl_length]; omega)
    have hp4l : (pad4 (lastL ns)).length = 4 := pad4_length (by simp [lastL]; omega)
    have hfl : (flat ns f m).length ≤ 4 * m := flat_len (fun j hj => hl j (by omega))
    have hPR := PR_le h1.2 h2
    (conv => whnf)
    refine V.st ?_
    repeat ((try ((with_reducible refine .ext ?_); (conv => whnf))); (with_reducible refine call_intro (r := ?_) ?_ ?_); rotate_left; (focus (first | exact (hfm))); (conv => whnf); refine V.st ?_)
    refine ⟨(.take 0 (.take 1 (.take 2 (.take 3 (.ev (.cons 4 [1, 0] (.ev (.cons 5 [] (.take 6 (.ev (.cons 7 [] (.done) (.nil)))) (.nil))) (.nil))))))), ⟨by kernel_rfl, by kernel_rfl, by kernel_rfl⟩, .go ?_⟩
    (conv => whnf)
    refine V.st ?_
    repeat ((try ((with_reducible refine .ext ?_); (conv => whnf))); (with_reducible refine call_intro (r := ?_) ?_ ?_); rotate_left; (focus (first | exact (hfm))); (conv => whnf); refine V.st ?_)
    try refine And.intro (fun _ => ⟨rfl, by omega⟩) ?_
    (conv => whnf)
    (try simp only [← flat_succ, ← List.length_append])
    repeat (first | (refine V.s1 ?_; (try simp only [← flat_succ, ← List.length_append])) | ((with_reducible refine recheck_and ?_ ?_); (focus ((conv => whnf); (try simp only [← flat_succ, ← List.length_append]); (repeat (refine V.s1 ?_; (try simp only [← flat_succ, ← List.length_append]))); exact ⟨rfl⟩)); (conv => whnf); (try simp only [← flat_succ, ← List.length_append])) | ((try ((with_reducible refine .ext ?_); (conv => whnf); (try simp only [← flat_succ, ← List.length_append]))); (with_reducible refine call_intro (r := ?_) ?_ ?_); rotate_left; (focus (first | exact (hfm))); (conv => whnf); (try simp only [← flat_succ, ← List.length_append])))
    refine Cnd.split (CondB.mk (fun hq => ?_) (fun hq => ?_))
    · simp only [decide_eq_true_eq] at hq
      have hq2 : ixl ns m = lastL ns := pad4_inj (by rw [ixl_length]; simp [lastL]) hq
      have hq3 := mod_last ns hpos m hq2
      rw [Nat.mod_eq_of_lt hm] at hq3
      have hq4 : m + 1 = PR ns := by omega
      (conv => whnf)
      refine V.st ?_
      rw [List.take_of_length_le (Nat.le_refl _), List.take_of_length_le (Nat.le_refl _), hq4]
      exact Fin.of rfl
    · simp only [decide_eq_false_iff_not] at hq
      have hq2 : ixl ns m ≠ lastL ns := fun e => hq (by rw [e])
      have hil := ixl_length ns m
      have hll : (lastL ns).length = ns.length := by simp [lastL]
      (conv => whnf)
      refine V.st ?_
      rw [hlen]
      have e2 : (ixl ns m).take ns.length = ixl ns m := List.take_of_length_le (by omega)
      refine lp_any (ns.length) (fun k => (1 ≤ k ∧ k ≤ ns.length) ∧ (ixl ns m).drop k = (lastL ns).drop k) (fun k => k) (fun k => [(7, .int .i64 ((k : Int) - 1))]) (fun k => [(31, .arr .i64 (pad4 ((ixl ns m).take k)))]) ?_ ?_ ?_
      · rw [e2]
        exact V.wk
      · exact ⟨⟨h1.1, Nat.le_refl _⟩, by rw [List.drop_of_length_le (by omega), List.drop_of_length_le (by omega)]⟩
      rintro p ⟨⟨hp1, hp2⟩, hp3⟩
      obtain ⟨p, rfl⟩ : ∃ q, p = q + 1 := ⟨p - 1, by omega⟩
      obtain ⟨x, hx⟩ : ∃ x, (ixl ns m)[p]? = some x := ⟨_, List.getElem?_eq_getElem (by omega)⟩
      obtain ⟨n, hn⟩ : ∃ n, ns[p]? = some n := ⟨ns[p], List.getElem?_eq_getElem (by omega)⟩
      have hpx := pad4_get hx (by omega : p < p + 1) (by omega)
      have hpl : (lastL ns)[p]? = some ((n : Int) - 1) := by simp [lastL, hn]
      have hpl2 := pad4_get (k := 4) hpl (by omega) (by omega)
      rw [List.take_of_length_le (by omega)] at hpl2
      have hp5 : (pad4 ((ixl ns m).take (p + 1))).length = 4 := pad4_length (by simp; omega)
      have e3 : ((p + 1 : Nat) : Int) - 1 = (p : Int) := by omega
      have e4 := pad4_zero hx (by omega)
      (conv => whnf)
      refine V.st ?_
      refine ⟨(.take 0 (.take 1 (.take 2 (.take 3 (.take 4 (.take 5 (.take 6 (.done)))))))), ⟨by kernel_rfl, by kernel_rfl, by kernel_rfl⟩, .go ?_⟩
      (conv => whnf)
      (try simp only [e3, Int.toNat_natCast, Nat.zero_add, hpx, hpl2])
      repeat (first | (refine V.s1 ?_; (try simp only [e3, Int.toNat_natCast, Nat.zero_add, hpx, hpl2])) | ((with_reducible refine recheck_and ?_ ?_); (focus ((conv => whnf); (try simp only [e3, Int.toNat_natCast, Nat.zero_add, hpx, hpl2]); (repeat (refine V.s1 ?_; (try simp only [e3, Int.toNat_natCast, Nat.zero_add, hpx, hpl2]))); exact ⟨rfl⟩)); (conv => whnf); (try simp only [e3, Int.toNat_natCast, Nat.zero_add, hpx, hpl2])))
      refine Cnd.split (CondB.mk (fun hc => ?_) (fun hc => ?_))
      · simp only [decide_eq_true_eq] at hc
        have hd : (ixl ns m).drop p = (lastL ns).drop p := by
          rw [List.drop_eq_getElem_cons (by omega : p < (ixl ns m).length), List.drop_eq_getElem_cons (by omega : p < (lastL ns).length), hp3, (List.getElem?_eq_some_iff.1 hx).2, (List.getElem?_eq_some_iff.1 hpl).2, hc]
        have hp0 : 1 ≤ p := by
          rcases Nat.eq_zero_or_pos p with e | e
          · subst e; exact absurd (by simpa using hd) hq2
          · exact e
        (conv => whnf)
        (try simp only [e3, Int.toNat_natCast, Nat.zero_add, e4])
        repeat (first | (refine V.s1 ?_; (try simp only [e3, Int.toNat_natCast, Nat.zero_add, e4])) | ((with_reducible refine recheck_and ?_ ?_); (focus ((conv => whnf); (try simp only [e3, Int.toNat_natCast, Nat.zero_add, e4]); (repeat (refine V.s1 ?_; (try simp only [e3, Int.toNat_natCast, Nat.zero_add, e4]))); exact ⟨rfl⟩)); (conv => whnf); (try simp only [e3, Int.toNat_natCast, Nat.zero_add, e4])))
        exact ⟨p, ⟨⟨hp0, by omega⟩, hd⟩, by omega, V.wk⟩
      · simp only [decide_eq_false_iff_not] at hc
        have hsu := ixl_succ ns hpos m p n hn x hx (by rw [hp3]; simp [lastL]) hc
        have e5 := pad4_incr (y := x + 1) hx (by omega) (by omega : (ixl ns m).length ≤ 4)
        rw [hil, ← hsu] at e5
        have hxb := ixl_bd hpos hn hx
        have hnb := h2 n (List.mem_of_getElem? hn)
        have hm1 : m + 1 < PR ns := by
          rcases Nat.lt_or_ge (m + 1) (PR ns) with e | e
          · exact e
          · exfalso
            exact hq2 (last_mod ns hpos m (by rw [Nat.mod_eq_of_lt hm]; omega))
        (conv => whnf)
        (try simp only [e3, Int.toNat_natCast, Nat.zero_add, hpx, e5])
        repeat (first | (refine V.s1 ?_; (try simp only [e3, Int.toNat_natCast, Nat.zero_add, hpx, e5])) | ((with_reducible refine recheck_and ?_ ?_); (focus ((conv => whnf); (try simp only [e3, Int.toNat_natCast, Nat.zero_add, hpx, e5]); (repeat (refine V.s1 ?_; (try simp only [e3, Int.toNat_natCast, Nat.zero_add, hpx, e5]))); exact ⟨rfl⟩)); (conv => whnf); (try simp only [e3, Int.toNat_natCast, Nat.zero_add, hpx, e5])))
        exact ⟨m + 1, hm1, by omega, V.wk⟩
end Go.Proofs.Ytfhmfpneiagakaa
