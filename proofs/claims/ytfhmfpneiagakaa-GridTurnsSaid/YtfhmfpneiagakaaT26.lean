/- What some functions of the program answer at values that mean given lists and numbers, each proved of the program's own code. Conditions: those that each theorem names. -/
import Derived.Test.YtfhmfpneiagakaaT23
import Derived.Test.YtfhmfpneiagakaaT19
import Derived.Test.YtfhmfpneiagakaaT10
import Derived.Test.YtfhmfpneiagakaaT12
import Derived.Test.YtfhmfpneiagakaaT25
import Derived.Test.YtfhmfpneiagakaaP4
set_option linter.unusedSimpArgs false
set_option linter.unusedVariables false
set_option maxHeartbeats 8000000
set_option maxRecDepth 100000
namespace Go.Proofs.Ytfhmfpneiagakaa
open Go Go.V Go.Gr
theorem sw_bd (s : List Int) (o : Int) (d : List Int) (a b : Int) : (if swErr s o d a b = 0 then swp s a.toNat b.toNat else []).length ≤ 4 ∧ (if swErr s o d a b = 0 then swData s o d a.toNat b.toNat else []).length ≤ 4096 := by
  split
  · rename_i h
    unfold swErr at h
    cases hg : okGrid s o d with
    | false => rw [hg] at h; simp at h
    | true =>
      rw [hg, if_pos rfl] at h
      split at h
      · rename_i h2
        have hG := okGrid_iff hg
        obtain ⟨ns, hn0, hn1, hn2⟩ := nz_of hG.2.2.2.2.1
        obtain ⟨w, rfl⟩ : ∃ w : Nat, o = w := ⟨o.toNat, by omega⟩
        subst hn0
        have hz : (nz ns).length = ns.length := by simp [nz]
        have hL := (swap_law hg hn2 (a := a.toNat) (b := b.toNat) (by omega) (by omega)).1
        have hG2 := okGrid_iff hL
        exact ⟨by rw [swp_length]; omega, by omega⟩
      · cases h
  · simp
theorem pk_bd (s : List Int) (o : Int) (d l : List Int) : (if pkErr s o d l = 0 then s else []).length ≤ 4 ∧ (if pkErr s o d l = 0 then pkData s o d l else []).length ≤ 4096 := by
  split
  · rename_i h
    unfold pkErr at h
    cases hg : okGrid s o d with
    | false => rw [hg] at h; simp at h
    | true =>
      rw [hg, if_pos rfl] at h
      split at h
      · split at h
        · cases h
        · rename_i h3
          have hG := okGrid_iff hg
          obtain ⟨ns, hn0, hn1, hn2⟩ := nz_of hG.2.2.2.2.1
          obtain ⟨w, rfl⟩ : ∃ w : Nat, o = w := ⟨o.toNat, by omega⟩
          subst hn0
          rw [prod_nz, ← Int.natCast_mul] at h3
          exact ⟨hG.2.1, by rw [pk_len]; omega⟩
      · cases h
  · simp
theorem turns_c (size : List Int) (out : Int) (data : List Int) (ds : List Int) (o : Int) (vals : List Int) (sm : Bool) (w0 a0 n0 w1 a1 n1 : Int) (i0 i1 : Int) (outs : List Int) (x0 x1 x2 x3 : Int)
    (hs : size.length ≤ 281474976710656) (hda : data.length ≤ 281474976710656)
    (hd : ∀ v ∈ ds, 0 ≤ v ∧ v ≤ 255) (hdl : ds.length ≤ 281474976710656) (ho : 0 ≤ o ∧ o ≤ 255) (hv : ∀ v ∈ vals, 0 ≤ v ∧ v ≤ 65535) (hvl : vals.length ≤ 281474976710656)
    (hw0 : 0 ≤ w0 ∧ w0 ≤ 255) (ha0 : 0 ≤ a0 ∧ a0 ≤ 255) (hw1 : 0 ≤ w1 ∧ w1 ≤ 255) (ha1 : 0 ≤ a1 ∧ a1 ≤ 255) (hix : outs.length ≤ 281474976710656)
    (hx0 : 0 ≤ x0 ∧ x0 ≤ 255) (hx1 : 0 ≤ x1 ∧ x1 ≤ 255) (hx2 : 0 ≤ x2 ∧ x2 ≤ 255) (hx3 : 0 ≤ x3 ∧ x3 ≤ 255) :
    Called Try.prog 4 [gridD size out data, draftD ds o vals sm, bendsD w0 a0 n0 w1 a1 n1, .agg [.int .i64 i0, .int .i64 i1], .ints .i64 outs, near4D x0 x1 x2 x3] (.bool true) := by
  obtain ⟨s0, o0, d0, s1, o1, d1, s2, o2, d2, s3, o3, d3, c4, ⟨b0, e0⟩, ⟨b1, e1⟩, ⟨b2, e2⟩, b3, e3⟩ := four_c size out data ds o vals sm w0 a0 n0 w1 a1 n1 hs hda hd hdl ho hv hvl hw0 ha0 hw1 ha1
  have hM : ∀ (s : List Int) (o : Int) (d : List Int), s.length ≤ 4 → d.length ≤ 4096 → Called Try.prog 20 [gridD s o d, gridD s o d] (.bool true) := fun s o d h1 h2 => Called.cast (rsame_c s o d s o d (by omega) (by omega) (by omega) (by omega)) (by simp)
  refine called_of_run tbOk 6 ⟨Try.func4, rfl, rfl, Nat.le_of_ble_eq_true rfl⟩ ?_
  (conv => whnf)
  refine V.st ?_
  repeat ((try ((with_reducible refine .ext ?_); (conv => whnf))); (with_reducible refine call_intro (r := ?_) ?_ ?_); rotate_left; (focus (first | exact (wakes_c) | exact (c4))); (conv => whnf); refine V.st ?_)
  have hil : (outs.take (min (outs.length : Int) 6).toNat).length ≤ 6 := by simp; omega
  generalize outs.take (min (outs.length : Int) 6).toNat = ix at *
  refine lp_go (4) (fun k => True) (fun k => [(41, .int .i64 k)]) (fun k => []) V.wk ?_ ?_
  · trivial
  intro k hk _
  have hk2 : k = 4 ∨ k = 0 ∨ k = 1 ∨ k = 2 ∨ k = 3 := by omega
  rcases hk2 with rfl | rfl | rfl | rfl | rfl
  · (conv => whnf)
    refine V.st ?_
    exact Fin.of rfl
  · obtain ⟨fS, fO, fD, fE, hS, hT, hU⟩ : ∃ (fS : Int → Int → List Int) (fO : Int → Int → Int) (fD : Int → Int → List Int) (fE : Int → Int → Int),
        (∀ a b, Called Try.prog 18 [gridD s0 o0 d0, .int .i64 a, .int .i64 b] (.tup [gridD (fS a b) (fO a b) (fD a b), .int .i64 (fE a b)])) ∧
        (∀ a b, Called Try.prog 19 [gridD s0 o0 d0, .int .i64 a, .int .i64 b] (.tup [gridD (fS a b) (fO a b) (fD a b), .int .i64 (fE a b)])) ∧
        ∀ a b, Called Try.prog 20 [gridD (fS a b) (fO a b) (fD a b), gridD (fS a b) (fO a b) (fD a b)] (.bool true) :=
      ⟨fun a b => if swErr s0 o0 d0 a b = 0 then swp s0 a.toNat b.toNat else [], fun a b => if swErr s0 o0 d0 a b = 0 then o0 else 0, fun a b => if swErr s0 o0 d0 a b = 0 then swData s0 o0 d0 a.toNat b.toNat else [], swErr s0 o0 d0,
       fun a b => swap_c s0 o0 d0 a b (by omega) (by omega), fun a b => rswap_c s0 o0 d0 a b (by omega) (by omega), fun a b => hM _ _ _ (sw_bd s0 o0 d0 a b).1 (sw_bd s0 o0 d0 a b).2⟩
    obtain ⟨gS, gO, gD, gE, hP, hQ, hV⟩ : ∃ (gS : List Int → List Int) (gO : List Int → Int) (gD : List Int → List Int) (gE : List Int → Int),
        (∀ l : List Int, l.length ≤ 100 → Called Try.prog 21 [gridD s0 o0 d0, .ints .i64 l] (.tup [gridD (gS l) (gO l) (gD l), .int .i64 (gE l)])) ∧
        (∀ l : List Int, l.length ≤ 100 → Called Try.prog 22 [gridD s0 o0 d0, .ints .i64 l] (.tup [gridD (gS l) (gO l) (gD l), .int .i64 (gE l)])) ∧
        ∀ l, Called Try.prog 20 [gridD (gS l) (gO l) (gD l), gridD (gS l) (gO l) (gD l)] (.bool true) :=
      ⟨fun l => if pkErr s0 o0 d0 l = 0 then s0 else [], fun l => if pkErr s0 o0 d0 l = 0 then (l.length : Int) else 0, fun l => if pkErr s0 o0 d0 l = 0 then pkData s0 o0 d0 l else [], pkErr s0 o0 d0,
       fun l hl => pick_c s0 o0 d0 l (by omega) (by omega) (by omega), fun l hl => rpick_c s0 o0 d0 l (by omega) (by omega) (by omega), fun l => hM _ _ _ (pk_bd s0 o0 d0 l).1 (pk_bd s0 o0 d0 l).2⟩
    (conv => whnf)
    refine V.st ?_
    refine ⟨(.take 0 (.take 1 (.take 2 (.take 3 (.take 4 (.take 5 (.take 6 (.take 7 (.take 8 (.take 9 (.done))))))))))), ⟨by kernel_rfl, by kernel_rfl, by kernel_rfl⟩, .go ?_⟩
    (conv => whnf)
    refine V.st ?_
    refine ⟨(.take 0 (.take 1 (.take 2 (.take 3 (.take 4 (.take 5 (.take 6 (.take 7 (.take 8 (.take 9 (.take 10 (.take 11 (.take 12 (.take 13 (.take 14 (.take 15 (.take 16 (.take 17 (.take 18 (.take 19 (.take 20 (.take 21 (.done))))))))))))))))))))))), ⟨by kernel_rfl, by kernel_rfl, by kernel_rfl⟩, .go ?_⟩
    (conv => whnf)
    (try simp only [Nat.zero_add, Int.reduceToNat, List.getD_cons_zero, List.getD_cons_succ])
    repeat (first | (refine V.s1 ?_; (try simp only [Nat.zero_add, Int.reduceToNat, List.getD_cons_zero, List.getD_cons_succ])) | ((with_reducible refine recheck_and ?_ ?_); (focus ((conv => whnf); (try simp only [Nat.zero_add, Int.reduceToNat, List.getD_cons_zero, List.getD_cons_succ]); (repeat (refine V.s1 ?_; (try simp only [Nat.zero_add, Int.reduceToNat, List.getD_cons_zero, List.getD_cons_succ]))); exact ⟨rfl⟩)); (conv => whnf); (try simp only [Nat.zero_add, Int.reduceToNat, List.getD_cons_zero, List.getD_cons_succ])))
    refine lp_go (3) (fun k => True) (fun k => [(73, .int .i64 k)]) (fun k => []) V.wk ?_ ?_
    · trivial
    intro k hk _
    have hk2 : k = 3 ∨ k = 0 ∨ k = 1 ∨ k = 2 := by omega
    rcases hk2 with rfl | rfl | rfl | rfl
    · (conv => whnf)
      refine V.st ?_
      refine ⟨(.take 0 (.take 1 (.take 2 (.take 3 (.take 4 (.take 5 (.take 6 (.take 7 (.take 8 (.take 9 (.ev (.cons 10 [] (.take 11 (.done)) (.nil))))))))))))), ⟨by kernel_rfl, by kernel_rfl, by kernel_rfl⟩, .go ?_⟩
      (conv => whnf)
      (try simp only [Nat.zero_add, Int.reduceToNat, List.getD_cons_zero, List.getD_cons_succ])
      repeat (first | (refine V.s1 ?_; (try simp only [Nat.zero_add, Int.reduceToNat, List.getD_cons_zero, List.getD_cons_succ])) | ((with_reducible refine recheck_and ?_ ?_); (focus ((conv => whnf); (try simp only [Nat.zero_add, Int.reduceToNat, List.getD_cons_zero, List.getD_cons_succ]); (repeat (refine V.s1 ?_; (try simp only [Nat.zero_add, Int.reduceToNat, List.getD_cons_zero, List.getD_cons_succ]))); exact ⟨rfl⟩)); (conv => whnf); (try simp only [Nat.zero_add, Int.reduceToNat, List.getD_cons_zero, List.getD_cons_succ])))
      generalize hu2 : x2 % min (max o0 1) 8 = u2 at *
      generalize hu3 : x3 % min (max o0 1) 8 = u3 at *
      refine ⟨(.take 0 (.take 1 (.take 2 (.take 4 (.take 6 (.take 7 (.take 8 (.take 9 (.take 10 (.take 11 (.take 12 (.take 13 (.take 14 (.take 15 (.take 18 (.ev (.cons 3 [18, 15, 14, 13, 12, 11, 10, 9, 8, 7, 6, 4, 1, 0] (.ev (.cons 5 [18, 15, 14, 13, 12, 11, 10, 9, 8, 7, 6, 1, 0] (.ev (.cons 16 [18, 1, 0] (.take 17 (.done)) (.nil))) (.cons 16 [18, 4, 1, 0] (.ev (.cons 5 [18, 1, 0] (.take 17 (.done)) (.nil))) (.nil)))) (.cons 16 [18, 4, 2, 1, 0] (.ev (.cons 3 [18, 4, 1, 0] (.ev (.cons 5 [18, 1, 0] (.take 17 (.done)) (.nil))) (.nil))) (.nil))))))))))))))))))), ⟨by kernel_rfl, by kernel_rfl, by kernel_rfl⟩, ?_⟩
      refine drw_meet [(132, .agg [.ints .i64 ix, .osl 114 0 2, .osl 120 0 (2 + ix.length), .osl 131 0 4]), (133, .int .i64 0)] [(120, .arr .i64 ([u2, u3] ++ ix)), (131, .arr .i64 [0, 0, u2, u3])] ?_ ?_
      · (conv => whnf)
        (try simp only [Nat.zero_add, Int.reduceToNat, List.getD_cons_zero, List.getD_cons_succ, hu2, hu3])
        repeat (first | (refine V.s1 ?_; (try simp only [Nat.zero_add, Int.reduceToNat, List.getD_cons_zero, List.getD_cons_succ, hu2, hu3])) | ((with_reducible refine recheck_and ?_ ?_); (focus ((conv => whnf); (try simp only [Nat.zero_add, Int.reduceToNat, List.getD_cons_zero, List.getD_cons_succ, hu2, hu3]); (repeat (refine V.s1 ?_; (try simp only [Nat.zero_add, Int.reduceToNat, List.getD_cons_zero, List.getD_cons_succ, hu2, hu3]))); exact ⟨rfl⟩)); (conv => whnf); (try simp only [Nat.zero_add, Int.reduceToNat, List.getD_cons_zero, List.getD_cons_succ, hu2, hu3])))
        have htk : List.take 2 [u2, u3] = [u2, u3] := rfl
        refine And.intro ?_ ?_
        · (conv => whnf)
          (try simp only [Nat.zero_add, Nat.add_zero, Int.reduceToNat, List.getD_cons_zero, List.getD_cons_succ, hu2, hu3, List.nil_append, List.drop_zero, List.take_length, htk, List.length_cons, List.length_nil, Nat.reduceAdd])
          repeat (first | (refine V.s1 ?_; (try simp only [Nat.zero_add, Nat.add_zero, Int.reduceToNat, List.getD_cons_zero, List.getD_cons_succ, hu2, hu3, List.nil_append, List.drop_zero, List.take_length, htk, List.length_cons, List.length_nil, Nat.reduceAdd])) | ((with_reducible refine recheck_and ?_ ?_); (focus ((conv => whnf); (try simp only [Nat.zero_add, Nat.add_zero, Int.reduceToNat, List.getD_cons_zero, List.getD_cons_succ, hu2, hu3, List.nil_append, List.drop_zero, List.take_length, htk, List.length_cons, List.length_nil, Nat.reduceAdd]); (repeat (refine V.s1 ?_; (try simp only [Nat.zero_add, Nat.add_zero, Int.reduceToNat, List.getD_cons_zero, List.getD_cons_succ, hu2, hu3, List.nil_append, List.drop_zero, List.take_length, htk, List.length_cons, List.length_nil, Nat.reduceAdd]))); exact ⟨rfl⟩)); (conv => whnf); (try simp only [Nat.zero_add, Nat.add_zero, Int.reduceToNat, List.getD_cons_zero, List.getD_cons_succ, hu2, hu3, List.nil_append, List.drop_zero, List.take_length, htk, List.length_cons, List.length_nil, Nat.reduceAdd])))
          refine .inl ?_
          (conv => whnf)
          refine ⟨0, _, _, ⟨Try.func12, rfl, rfl, Nat.le_of_ble_eq_true rfl⟩, ?_⟩
          (conv => whnf)
          (conv => whnf)
          (try simp only [Nat.zero_add, Nat.add_zero, Int.reduceToNat, List.getD_cons_zero, List.getD_cons_succ, hu2, hu3, List.nil_append, List.drop_zero, List.take_length, htk, List.length_cons, List.length_nil, Nat.reduceAdd])
          repeat (first | (refine V.s1 ?_; (try simp only [Nat.zero_add, Nat.add_zero, Int.reduceToNat, List.getD_cons_zero, List.getD_cons_succ, hu2, hu3, List.nil_append, List.drop_zero, List.take_length, htk, List.length_cons, List.length_nil, Nat.reduceAdd])) | ((with_reducible refine recheck_and ?_ ?_); (focus ((conv => whnf); (try simp only [Nat.zero_add, Nat.add_zero, Int.reduceToNat, List.getD_cons_zero, List.getD_cons_succ, hu2, hu3, List.nil_append, List.drop_zero, List.take_length, htk, List.length_cons, List.length_nil, Nat.reduceAdd]); (repeat (refine V.s1 ?_; (try simp only [Nat.zero_add, Nat.add_zero, Int.reduceToNat, List.getD_cons_zero, List.getD_cons_succ, hu2, hu3, List.nil_append, List.drop_zero, List.take_length, htk, List.length_cons, List.length_nil, Nat.reduceAdd]))); exact ⟨rfl⟩)); (conv => whnf); (try simp only [Nat.zero_add, Nat.add_zero, Int.reduceToNat, List.getD_cons_zero, List.getD_cons_succ, hu2, hu3, List.nil_append, List.drop_zero, List.take_length, htk, List.length_cons, List.length_nil, Nat.reduceAdd])))
          refine And.intro ?_ ?_
          · (conv => whnf)
            (try simp only [Nat.zero_add, Nat.add_zero, Int.reduceToNat, List.getD_cons_zero, List.getD_cons_succ, hu2, hu3, List.nil_append, List.drop_zero, List.take_length, htk, List.length_cons, List.length_nil, Nat.reduceAdd])
            repeat (first | (refine V.s1 ?_; (try simp only [Nat.zero_add, Nat.add_zero, Int.reduceToNat, List.getD_cons_zero, List.getD_cons_succ, hu2, hu3, List.nil_append, List.drop_zero, List.take_length, htk, List.length_cons, List.length_nil, Nat.reduceAdd])) | ((with_reducible refine recheck_and ?_ ?_); (focus ((conv => whnf); (try simp only [Nat.zero_add, Nat.add_zero, Int.reduceToNat, List.getD_cons_zero, List.getD_cons_succ, hu2, hu3, List.nil_append, List.drop_zero, List.take_length, htk, List.length_cons, List.length_nil, Nat.reduceAdd]); (repeat (refine V.s1 ?_; (try simp only [Nat.zero_add, Nat.add_zero, Int.reduceToNat, List.getD_cons_zero, List.getD_cons_succ, hu2, hu3, List.nil_append, List.drop_zero, List.take_length, htk, List.length_cons, List.length_nil, Nat.reduceAdd]))); exact ⟨rfl⟩)); (conv => whnf); (try simp only [Nat.zero_add, Nat.add_zero, Int.reduceToNat, List.getD_cons_zero, List.getD_cons_succ, hu2, hu3, List.nil_append, List.drop_zero, List.take_length, htk, List.length_cons, List.length_nil, Nat.reduceAdd])))
            exact V.wk
          · (conv => whnf)
            (try simp only [Nat.zero_add, Nat.add_zero, Int.reduceToNat, List.getD_cons_zero, List.getD_cons_succ, hu2, hu3, List.nil_append, List.drop_zero, List.take_length, htk, List.length_cons, List.length_nil, Nat.reduceAdd])
            repeat (first | (refine V.s1 ?_; (try simp only [Nat.zero_add, Nat.add_zero, Int.reduceToNat, List.getD_cons_zero, List.getD_cons_succ, hu2, hu3, List.nil_append, List.drop_zero, List.take_length, htk, List.length_cons, List.length_nil, Nat.reduceAdd])) | ((with_reducible refine recheck_and ?_ ?_); (focus ((conv => whnf); (try simp only [Nat.zero_add, Nat.add_zero, Int.reduceToNat, List.getD_cons_zero, List.getD_cons_succ, hu2, hu3, List.nil_append, List.drop_zero, List.take_length, htk, List.length_cons, List.length_nil, Nat.reduceAdd]); (repeat (refine V.s1 ?_; (try simp only [Nat.zero_add, Nat.add_zero, Int.reduceToNat, List.getD_cons_zero, List.getD_cons_succ, hu2, hu3, List.nil_append, List.drop_zero, List.take_length, htk, List.length_cons, List.length_nil, Nat.reduceAdd]))); exact ⟨rfl⟩)); (conv => whnf); (try simp only [Nat.zero_add, Nat.add_zero, Int.reduceToNat, List.getD_cons_zero, List.getD_cons_succ, hu2, hu3, List.nil_append, List.drop_zero, List.take_length, htk, List.length_cons, List.length_nil, Nat.reduceAdd])))
            exact V.wk
        · (conv => whnf)
          (try simp only [Nat.zero_add, Nat.add_zero, Int.reduceToNat, List.getD_cons_zero, List.getD_cons_succ, hu2, hu3, List.nil_append, List.drop_zero, List.take_length, htk, List.length_cons, List.length_nil, Nat.reduceAdd])
          repeat (first | (refine V.s1 ?_; (try simp only [Nat.zero_add, Nat.add_zero, Int.reduceToNat, List.getD_cons_zero, List.getD_cons_succ, hu2, hu3, List.nil_append, List.drop_zero, List.take_length, htk, List.length_cons, List.length_nil, Nat.reduceAdd])) | ((with_reducible refine recheck_and ?_ ?_); (focus ((conv => whnf); (try simp only [Nat.zero_add, Nat.add_zero, Int.reduceToNat, List.getD_cons_zero, List.getD_cons_succ, hu2, hu3, List.nil_append, List.drop_zero, List.take_length, htk, List.length_cons, List.length_nil, Nat.reduceAdd]); (repeat (refine V.s1 ?_; (try simp only [Nat.zero_add, Nat.add_zero, Int.reduceToNat, List.getD_cons_zero, List.getD_cons_succ, hu2, hu3, List.nil_append, List.drop_zero, List.take_length, htk, List.length_cons, List.length_nil, Nat.reduceAdd]))); exact ⟨rfl⟩)); (conv => whnf); (try simp only [Nat.zero_add, Nat.add_zero, Int.reduceToNat, List.getD_cons_zero, List.getD_cons_succ, hu2, hu3, List.nil_append, List.drop_zero, List.take_length, htk, List.length_cons, List.length_nil, Nat.reduceAdd])))
          refine .inl ?_
          (conv => whnf)
          refine ⟨0, _, _, ⟨Try.func12, rfl, rfl, Nat.le_of_ble_eq_true rfl⟩, ?_⟩
          (conv => whnf)
          (conv => whnf)
          (try simp only [Nat.zero_add, Nat.add_zero, Int.reduceToNat, List.getD_cons_zero, List.getD_cons_succ, hu2, hu3, List.nil_append, List.drop_zero, List.take_length, htk, List.length_cons, List.length_nil, Nat.reduceAdd])
          repeat (first | (refine V.s1 ?_; (try simp only [Nat.zero_add, Nat.add_zero, Int.reduceToNat, List.getD_cons_zero, List.getD_cons_succ, hu2, hu3, List.nil_append, List.drop_zero, List.take_length, htk, List.length_cons, List.length_nil, Nat.reduceAdd])) | ((with_reducible refine recheck_and ?_ ?_); (focus ((conv => whnf); (try simp only [Nat.zero_add, Nat.add_zero, Int.reduceToNat, List.getD_cons_zero, List.getD_cons_succ, hu2, hu3, List.nil_append, List.drop_zero, List.take_length, htk, List.length_cons, List.length_nil, Nat.reduceAdd]); (repeat (refine V.s1 ?_; (try simp only [Nat.zero_add, Nat.add_zero, Int.reduceToNat, List.getD_cons_zero, List.getD_cons_succ, hu2, hu3, List.nil_append, List.drop_zero, List.take_length, htk, List.length_cons, List.length_nil, Nat.reduceAdd]))); exact ⟨rfl⟩)); (conv => whnf); (try simp only [Nat.zero_add, Nat.add_zero, Int.reduceToNat, List.getD_cons_zero, List.getD_cons_succ, hu2, hu3, List.nil_append, List.drop_zero, List.take_length, htk, List.length_cons, List.length_nil, Nat.reduceAdd])))
          exact V.wk
      (conv => whnf)
      refine V.st ?_
      refine Lp.pub 114 ?_
      (conv => whnf)
      refine Lp.pub 120 ?_
      (conv => whnf)
      refine Lp.pub 131 ?_
      (conv => whnf)
      refine lp_go (4) (fun k => True) (fun k => [(133, .int .i64 k)]) (fun k => []) V.wk ?_ ?_
      · trivial
      intro k hk _
      have hk2 : k = 4 ∨ k = 0 ∨ k = 1 ∨ k = 2 ∨ k = 3 := by omega
      rcases hk2 with rfl | rfl | rfl | rfl | rfl
      · (conv => whnf)
        refine V.st ?_
        first | exact ⟨1, ⟨by omega, trivial⟩, by omega, V.wk⟩ | exact ⟨2, ⟨by omega, trivial⟩, by omega, V.wk⟩ | exact ⟨3, ⟨by omega, trivial⟩, by omega, V.wk⟩ | exact ⟨4, ⟨by omega, trivial⟩, by omega, V.wk⟩
      all_goals
        (conv => whnf)
        refine V.st ?_
        repeat ((try ((with_reducible refine .ext ?_); (conv => whnf))); (with_reducible refine call_intro (r := ?_) ?_ ?_); rotate_left; (focus (first | exact (hV _) | (refine hP _ ?_; simp; omega) | (refine hQ _ ?_; simp; omega) | (refine hP _ ?_; omega) | (refine hQ _ ?_; omega) | (refine hP _ ?_; simp; done) | (refine hQ _ ?_; simp; done))); (conv => whnf); refine V.st ?_)
        refine Cnd.split (CondB.mk (fun hb => ?_) (fun hb => ?_))
        · simp at hb
        (conv => whnf)
        refine V.st ?_
        first | exact ⟨1, ⟨by omega, trivial⟩, by omega, V.wk⟩ | exact ⟨2, ⟨by omega, trivial⟩, by omega, V.wk⟩ | exact ⟨3, ⟨by omega, trivial⟩, by omega, V.wk⟩ | exact ⟨4, ⟨by omega, trivial⟩, by omega, V.wk⟩
    all_goals
      (conv => whnf)
      refine V.st ?_
      repeat ((try ((with_reducible refine .ext ?_); (conv => whnf))); (with_reducible refine call_intro (r := ?_) ?_ ?_); rotate_left; (focus (first | exact (hS _ _) | exact (hT _ _) | exact (hU _ _))); (conv => whnf); refine V.st ?_)
      refine Cnd.split (CondB.mk (fun hb => ?_) (fun hb => ?_))
      · simp at hb
      (conv => whnf)
      refine V.st ?_
      first | exact ⟨1, ⟨by omega, trivial⟩, by omega, V.wk⟩ | exact ⟨2, ⟨by omega, trivial⟩, by omega, V.wk⟩ | exact ⟨3, ⟨by omega, trivial⟩, by omega, V.wk⟩ | exact ⟨4, ⟨by omega, trivial⟩, by omega, V.wk⟩
  · obtain ⟨fS, fO, fD, fE, hS, hT, hU⟩ : ∃ (fS : Int → Int → List Int) (fO : Int → Int → Int) (fD : Int → Int → List Int) (fE : Int → Int → Int),
        (∀ a b, Called Try.prog 18 [gridD s1 o1 d1, .int .i64 a, .int .i64 b] (.tup [gridD (fS a b) (fO a b) (fD a b), .int .i64 (fE a b)])) ∧
        (∀ a b, Called Try.prog 19 [gridD s1 o1 d1, .int .i64 a, .int .i64 b] (.tup [gridD (fS a b) (fO a b) (fD a b), .int .i64 (fE a b)])) ∧
        ∀ a b, Called Try.prog 20 [gridD (fS a b) (fO a b) (fD a b), gridD (fS a b) (fO a b) (fD a b)] (.bool true) :=
      ⟨fun a b => if swErr s1 o1 d1 a b = 0 then swp s1 a.toNat b.toNat else [], fun a b => if swErr s1 o1 d1 a b = 0 then o1 else 0, fun a b => if swErr s1 o1 d1 a b = 0 then swData s1 o1 d1 a.toNat b.toNat else [], swErr s1 o1 d1,
       fun a b => swap_c s1 o1 d1 a b (by omega) (by omega), fun a b => rswap_c s1 o1 d1 a b (by omega) (by omega), fun a b => hM _ _ _ (sw_bd s1 o1 d1 a b).1 (sw_bd s1 o1 d1 a b).2⟩
    obtain ⟨gS, gO, gD, gE, hP, hQ, hV⟩ : ∃ (gS : List Int → List Int) (gO : List Int → Int) (gD : List Int → List Int) (gE : List Int → Int),
        (∀ l : List Int, l.length ≤ 100 → Called Try.prog 21 [gridD s1 o1 d1, .ints .i64 l] (.tup [gridD (gS l) (gO l) (gD l), .int .i64 (gE l)])) ∧
        (∀ l : List Int, l.length ≤ 100 → Called Try.prog 22 [gridD s1 o1 d1, .ints .i64 l] (.tup [gridD (gS l) (gO l) (gD l), .int .i64 (gE l)])) ∧
        ∀ l, Called Try.prog 20 [gridD (gS l) (gO l) (gD l), gridD (gS l) (gO l) (gD l)] (.bool true) :=
      ⟨fun l => if pkErr s1 o1 d1 l = 0 then s1 else [], fun l => if pkErr s1 o1 d1 l = 0 then (l.length : Int) else 0, fun l => if pkErr s1 o1 d1 l = 0 then pkData s1 o1 d1 l else [], pkErr s1 o1 d1,
       fun l hl => pick_c s1 o1 d1 l (by omega) (by omega) (by omega), fun l hl => rpick_c s1 o1 d1 l (by omega) (by omega) (by omega), fun l => hM _ _ _ (pk_bd s1 o1 d1 l).1 (pk_bd s1 o1 d1 l).2⟩
    (conv => whnf)
    refine V.st ?_
    refine ⟨(.take 0 (.take 1 (.take 2 (.take 3 (.take 4 (.take 5 (.take 6 (.take 7 (.take 8 (.take 9 (.done))))))))))), ⟨by kernel_rfl, by kernel_rfl, by kernel_rfl⟩, .go ?_⟩
    (conv => whnf)
    refine V.st ?_
    refine ⟨(.take 0 (.take 1 (.take 2 (.take 3 (.take 4 (.take 5 (.take 6 (.take 7 (.take 8 (.take 9 (.take 10 (.take 11 (.take 12 (.take 13 (.take 14 (.take 15 (.take 16 (.take 17 (.take 18 (.take 19 (.take 20 (.take 21 (.done))))))))))))))))))))))), ⟨by kernel_rfl, by kernel_rfl, by kernel_rfl⟩, .go ?_⟩
    (conv => whnf)
    (try simp only [Nat.zero_add, Int.reduceToNat, List.getD_cons_zero, List.getD_cons_succ])
    repeat (first | (refine V.s1 ?_; (try simp only [Nat.zero_add, Int.reduceToNat, List.getD_cons_zero, List.getD_cons_succ])) | ((with_reducible refine recheck_and ?_ ?_); (focus ((conv => whnf); (try simp only [Nat.zero_add, Int.reduceToNat, List.getD_cons_zero, List.getD_cons_succ]); (repeat (refine V.s1 ?_; (try simp only [Nat.zero_add, Int.reduceToNat, List.getD_cons_zero, List.getD_cons_succ]))); exact ⟨rfl⟩)); (conv => whnf); (try simp only [Nat.zero_add, Int.reduceToNat, List.getD_cons_zero, List.getD_cons_succ])))
    refine lp_go (3) (fun k => True) (fun k => [(73, .int .i64 k)]) (fun k => []) V.wk ?_ ?_
    · trivial
    intro k hk _
    have hk2 : k = 3 ∨ k = 0 ∨ k = 1 ∨ k = 2 := by omega
    rcases hk2 with rfl | rfl | rfl | rfl
    · (conv => whnf)
      refine V.st ?_
      refine ⟨(.take 0 (.take 1 (.take 2 (.take 3 (.take 4 (.take 5 (.take 6 (.take 7 (.take 8 (.take 9 (.ev (.cons 10 [] (.take 11 (.done)) (.nil))))))))))))), ⟨by kernel_rfl, by kernel_rfl, by kernel_rfl⟩, .go ?_⟩
      (conv => whnf)
      (try simp only [Nat.zero_add, Int.reduceToNat, List.getD_cons_zero, List.getD_cons_succ])
      repeat (first | (refine V.s1 ?_; (try simp only [Nat.zero_add, Int.reduceToNat, List.getD_cons_zero, List.getD_cons_succ])) | ((with_reducible refine recheck_and ?_ ?_); (focus ((conv => whnf); (try simp only [Nat.zero_add, Int.reduceToNat, List.getD_cons_zero, List.getD_cons_succ]); (repeat (refine V.s1 ?_; (try simp only [Nat.zero_add, Int.reduceToNat, List.getD_cons_zero, List.getD_cons_succ]))); exact ⟨rfl⟩)); (conv => whnf); (try simp only [Nat.zero_add, Int.reduceToNat, List.getD_cons_zero, List.getD_cons_succ])))
      generalize hu2 : x2 % min (max o1 1) 8 = u2 at *
      generalize hu3 : x3 % min (max o1 1) 8 = u3 at *
      refine ⟨(.take 0 (.take 1 (.take 2 (.take 4 (.take 6 (.take 7 (.take 8 (.take 9 (.take 10 (.take 11 (.take 12 (.take 13 (.take 14 (.take 15 (.take 18 (.ev (.cons 3 [18, 15, 14, 13, 12, 11, 10, 9, 8, 7, 6, 4, 1, 0] (.ev (.cons 5 [18, 15, 14, 13, 12, 11, 10, 9, 8, 7, 6, 1, 0] (.ev (.cons 16 [18, 1, 0] (.take 17 (.done)) (.nil))) (.cons 16 [18, 4, 1, 0] (.ev (.cons 5 [18, 1, 0] (.take 17 (.done)) (.nil))) (.nil)))) (.cons 16 [18, 4, 2, 1, 0] (.ev (.cons 3 [18, 4, 1, 0] (.ev (.cons 5 [18, 1, 0] (.take 17 (.done)) (.nil))) (.nil))) (.nil))))))))))))))))))), ⟨by kernel_rfl, by kernel_rfl, by kernel_rfl⟩, ?_⟩
      refine drw_meet [(132, .agg [.ints .i64 ix, .osl 114 0 2, .osl 120 0 (2 + ix.length), .osl 131 0 4]), (133, .int .i64 0)] [(120, .arr .i64 ([u2, u3] ++ ix)), (131, .arr .i64 [0, 0, u2, u3])] ?_ ?_
      · (conv => whnf)
        (try simp only [Nat.zero_add, Int.reduceToNat, List.getD_cons_zero, List.getD_cons_succ, hu2, hu3])
        repeat (first | (refine V.s1 ?_; (try simp only [Nat.zero_add, Int.reduceToNat, List.getD_cons_zero, List.getD_cons_succ, hu2, hu3])) | ((with_reducible refine recheck_and ?_ ?_); (focus ((conv => whnf); (try simp only [Nat.zero_add, Int.reduceToNat, List.getD_cons_zero, List.getD_cons_succ, hu2, hu3]); (repeat (refine V.s1 ?_; (try simp only [Nat.zero_add, Int.reduceToNat, List.getD_cons_zero, List.getD_cons_succ, hu2, hu3]))); exact ⟨rfl⟩)); (conv => whnf); (try simp only [Nat.zero_add, Int.reduceToNat, List.getD_cons_zero, List.getD_cons_succ, hu2, hu3])))
        have htk : List.take 2 [u2, u3] = [u2, u3] := rfl
        refine And.intro ?_ ?_
        · (conv => whnf)
          (try simp only [Nat.zero_add, Nat.add_zero, Int.reduceToNat, List.getD_cons_zero, List.getD_cons_succ, hu2, hu3, List.nil_append, List.drop_zero, List.take_length, htk, List.length_cons, List.length_nil, Nat.reduceAdd])
          repeat (first | (refine V.s1 ?_; (try simp only [Nat.zero_add, Nat.add_zero, Int.reduceToNat, List.getD_cons_zero, List.getD_cons_succ, hu2, hu3, List.nil_append, List.drop_zero, List.take_length, htk, List.length_cons, List.length_nil, Nat.reduceAdd])) | ((with_reducible refine recheck_and ?_ ?_); (focus ((conv => whnf); (try simp only [Nat.zero_add, Nat.add_zero, Int.reduceToNat, List.getD_cons_zero, List.getD_cons_succ, hu2, hu3, List.nil_append, List.drop_zero, List.take_length, htk, List.length_cons, List.length_nil, Nat.reduceAdd]); (repeat (refine V.s1 ?_; (try simp only [Nat.zero_add, Nat.add_zero, Int.reduceToNat, List.getD_cons_zero, List.getD_cons_succ, hu2, hu3, List.nil_append, List.drop_zero, List.take_length, htk, List.length_cons, List.length_nil, Nat.reduceAdd]))); exact ⟨rfl⟩)); (conv => whnf); (try simp only [Nat.zero_add, Nat.add_zero, Int.reduceToNat, List.getD_cons_zero, List.getD_cons_succ, hu2, hu3, List.nil_append, List.drop_zero, List.take_length, htk, List.length_cons, List.length_nil, Nat.reduceAdd])))
          refine .inl ?_
          (conv => whnf)
          refine ⟨0, _, _, ⟨Try.func12, rfl, rfl, Nat.le_of_ble_eq_true rfl⟩, ?_⟩
          (conv => whnf)
          (conv => whnf)
          (try simp only [Nat.zero_add, Nat.add_zero, Int.reduceToNat, List.getD_cons_zero, List.getD_cons_succ, hu2, hu3, List.nil_append, List.drop_zero, List.take_length, htk, List.length_cons, List.length_nil, Nat.reduceAdd])
          repeat (first | (refine V.s1 ?_; (try simp only [Nat.zero_add, Nat.add_zero, Int.reduceToNat, List.getD_cons_zero, List.getD_cons_succ, hu2, hu3, List.nil_append, List.drop_zero, List.take_length, htk, List.length_cons, List.length_nil, Nat.reduceAdd])) | ((with_reducible refine recheck_and ?_ ?_); (focus ((conv => whnf); (try simp only [Nat.zero_add, Nat.add_zero, Int.reduceToNat, List.getD_cons_zero, List.getD_cons_succ, hu2, hu3, List.nil_append, List.drop_zero, List.take_length, htk, List.length_cons, List.length_nil, Nat.reduceAdd]); (repeat (refine V.s1 ?_; (try simp only [Nat.zero_add, Nat.add_zero, Int.reduceToNat, List.getD_cons_zero, List.getD_cons_succ, hu2, hu3, List.nil_append, List.drop_zero, List.take_length, htk, List.length_cons, List.length_nil, Nat.reduceAdd]))); exact ⟨rfl⟩)); (conv => whnf); (try simp only [Nat.zero_add, Nat.add_zero, Int.reduceToNat, List.getD_cons_zero, List.getD_cons_succ, hu2, hu3, List.nil_append, List.drop_zero, List.take_length, htk, List.length_cons, List.length_nil, Nat.reduceAdd])))
          refine And.intro ?_ ?_
          · (conv => whnf)
            (try simp only [Nat.zero_add, Nat.add_zero, Int.reduceToNat, List.getD_cons_zero, List.getD_cons_succ, hu2, hu3, List.nil_append, List.drop_zero, List.take_length, htk, List.length_cons, List.length_nil, Nat.reduceAdd])
            repeat (first | (refine V.s1 ?_; (try simp only [Nat.zero_add, Nat.add_zero, Int.reduceToNat, List.getD_cons_zero, List.getD_cons_succ, hu2, hu3, List.nil_append, List.drop_zero, List.take_length, htk, List.length_cons, List.length_nil, Nat.reduceAdd])) | ((with_reducible refine recheck_and ?_ ?_); (focus ((conv => whnf); (try simp only [Nat.zero_add, Nat.add_zero, Int.reduceToNat, List.getD_cons_zero, List.getD_cons_succ, hu2, hu3, List.nil_append, List.drop_zero, List.take_length, htk, List.length_cons, List.length_nil, Nat.reduceAdd]); (repeat (refine V.s1 ?_; (try simp only [Nat.zero_add, Nat.add_zero, Int.reduceToNat, List.getD_cons_zero, List.getD_cons_succ, hu2, hu3, List.nil_append, List.drop_zero, List.take_length, htk, List.length_cons, List.length_nil, Nat.reduceAdd]))); exact ⟨rfl⟩)); (conv => whnf); (try simp only [Nat.zero_add, Nat.add_zero, Int.reduceToNat, List.getD_cons_zero, List.getD_cons_succ, hu2, hu3, List.nil_append, List.drop_zero, List.take_length, htk, List.length_cons, List.length_nil, Nat.reduceAdd])))
            exact V.wk
          · (conv => whnf)
            (try simp only [Nat.zero_add, Nat.add_zero, Int.reduceToNat, List.getD_cons_zero, List.getD_cons_succ, hu2, hu3, List.nil_append, List.drop_zero, List.take_length, htk, List.length_cons, List.length_nil, Nat.reduceAdd])
            repeat (first | (refine V.s1 ?_; (try simp only [Nat.zero_add, Nat.add_zero, Int.reduceToNat, List.getD_cons_zero, List.getD_cons_succ, hu2, hu3, List.nil_append, List.drop_zero, List.take_length, htk, List.length_cons, List.length_nil, Nat.reduceAdd])) | ((with_reducible refine recheck_and ?_ ?_); (focus ((conv => whnf); (try simp only [Nat.zero_add, Nat.add_zero, Int.reduceToNat, List.getD_cons_zero, List.getD_cons_succ, hu2, hu3, List.nil_append, List.drop_zero, List.take_length, htk, List.length_cons, List.length_nil, Nat.reduceAdd]); (repeat (refine V.s1 ?_; (try simp only [Nat.zero_add, Nat.add_zero, Int.reduceToNat, List.getD_cons_zero, List.getD_cons_succ, hu2, hu3, List.nil_append, List.drop_zero, List.take_length, htk, List.length_cons, List.length_nil, Nat.reduceAdd]))); exact ⟨rfl⟩)); (conv => whnf); (try simp only [Nat.zero_add, Nat.add_zero, Int.reduceToNat, List.getD_cons_zero, List.getD_cons_succ, hu2, hu3, List.nil_append, List.drop_zero, List.take_length, htk, List.length_cons, List.length_nil, Nat.reduceAdd])))
            exact V.wk
        · (conv => whnf)
          (try simp only [Nat.zero_add, Nat.add_zero, Int.reduceToNat, List.getD_cons_zero, List.getD_cons_succ, hu2, hu3, List.nil_append, List.drop_zero, List.take_length, htk, List.length_cons, List.length_nil, Nat.reduceAdd])
          repeat (first | (refine V.s1 ?_; (try simp only [Nat.zero_add, Nat.add_zero, Int.reduceToNat, List.getD_cons_zero, List.getD_cons_succ, hu2, hu3, List.nil_append, List.drop_zero, List.take_length, htk, List.length_cons, List.length_nil, Nat.reduceAdd])) | ((with_reducible refine recheck_and ?_ ?_); (focus ((conv => whnf); (try simp only [Nat.zero_add, Nat.add_zero, Int.reduceToNat, List.getD_cons_zero, List.getD_cons_succ, hu2, hu3, List.nil_append, List.drop_zero, List.take_length, htk, List.length_cons, List.length_nil, Nat.reduceAdd]); (repeat (refine V.s1 ?_; (try simp only [Nat.zero_add, Nat.add_zero, Int.reduceToNat, List.getD_cons_zero, List.getD_cons_succ, hu2, hu3, List.nil_append, List.drop_zero, List.take_length, htk, List.length_cons, List.length_nil, Nat.reduceAdd]))); exact ⟨rfl⟩)); (conv => whnf); (try simp only [Nat.zero_add, Nat.add_zero, Int.reduceToNat, List.getD_cons_zero, List.getD_cons_succ, hu2, hu3, List.nil_append, List.drop_zero, List.take_length, htk, List.length_cons, List.length_nil, Nat.reduceAdd])))
          refine .inl ?_
          (conv => whnf)
          refine ⟨0, _, _, ⟨Try.func12, rfl, rfl, Nat.le_of_ble_eq_true rfl⟩, ?_⟩
          (conv => whnf)
          (conv => whnf)
          (try simp only [Nat.zero_add, Nat.add_zero, Int.reduceToNat, List.getD_cons_zero, List.getD_cons_succ, hu2, hu3, List.nil_append, List.drop_zero, List.take_length, htk, List.length_cons, List.length_nil, Nat.reduceAdd])
          repeat (first | (refine V.s1 ?_; (try simp only [Nat.zero_add, Nat.add_zero, Int.reduceToNat, List.getD_cons_zero, List.getD_cons_succ, hu2, hu3, List.nil_append, List.drop_zero, List.take_length, htk, List.length_cons, List.length_nil, Nat.reduceAdd])) | ((with_reducible refine recheck_and ?_ ?_); (focus ((conv => whnf); (try simp only [Nat.zero_add, Nat.add_zero, Int.reduceToNat, List.getD_cons_zero, List.getD_cons_succ, hu2, hu3, List.nil_append, List.drop_zero, List.take_length, htk, List.length_cons, List.length_nil, Nat.reduceAdd]); (repeat (refine V.s1 ?_; (try simp only [Nat.zero_add, Nat.add_zero, Int.reduceToNat, List.getD_cons_zero, List.getD_cons_succ, hu2, hu3, List.nil_append, List.drop_zero, List.take_length, htk, List.length_cons, List.length_nil, Nat.reduceAdd]))); exact ⟨rfl⟩)); (conv => whnf); (try simp only [Nat.zero_add, Nat.add_zero, Int.reduceToNat, List.getD_cons_zero, List.getD_cons_succ, hu2, hu3, List.nil_append, List.drop_zero, List.take_length, htk, List.length_cons, List.length_nil, Nat.reduceAdd])))
          exact V.wk
      (conv => whnf)
      refine V.st ?_
      refine Lp.pub 114 ?_
      (conv => whnf)
      refine Lp.pub 120 ?_
      (conv => whnf)
      refine Lp.pub 131 ?_
      (conv => whnf)
      refine lp_go (4) (fun k => True) (fun k => [(133, .int .i64 k)]) (fun k => []) V.wk ?_ ?_
      · trivial
      intro k hk _
      have hk2 : k = 4 ∨ k = 0 ∨ k = 1 ∨ k = 2 ∨ k = 3 := by omega
      rcases hk2 with rfl | rfl | rfl | rfl | rfl
      · (conv => whnf)
        refine V.st ?_
        first | exact ⟨1, ⟨by omega, trivial⟩, by omega, V.wk⟩ | exact ⟨2, ⟨by omega, trivial⟩, by omega, V.wk⟩ | exact ⟨3, ⟨by omega, trivial⟩, by omega, V.wk⟩ | exact ⟨4, ⟨by omega, trivial⟩, by omega, V.wk⟩
      all_goals
        (conv => whnf)
        refine V.st ?_
        repeat ((try ((with_reducible refine .ext ?_); (conv => whnf))); (with_reducible refine call_intro (r := ?_) ?_ ?_); rotate_left; (focus (first | exact (hV _) | (refine hP _ ?_; simp; omega) | (refine hQ _ ?_; simp; omega) | (refine hP _ ?_; omega) | (refine hQ _ ?_; omega) | (refine hP _ ?_; simp; done) | (refine hQ _ ?_; simp; done))); (conv => whnf); refine V.st ?_)
        refine Cnd.split (CondB.mk (fun hb => ?_) (fun hb => ?_))
        · simp at hb
        (conv => whnf)
        refine V.st ?_
        first | exact ⟨1, ⟨by omega, trivial⟩, by omega, V.wk⟩ | exact ⟨2, ⟨by omega, trivial⟩, by omega, V.wk⟩ | exact ⟨3, ⟨by omega, trivial⟩, by omega, V.wk⟩ | exact ⟨4, ⟨by omega, trivial⟩, by omega, V.wk⟩
    all_goals
      (conv => whnf)
      refine V.st ?_
      repeat ((try ((with_reducible refine .ext ?_); (conv => whnf))); (with_reducible refine call_intro (r := ?_) ?_ ?_); rotate_left; (focus (first | exact (hS _ _) | exact (hT _ _) | exact (hU _ _))); (conv => whnf); refine V.st ?_)
      refine Cnd.split (CondB.mk (fun hb => ?_) (fun hb => ?_))
      · simp at hb
      (conv => whnf)
      refine V.st ?_
      first | exact ⟨1, ⟨by omega, trivial⟩, by omega, V.wk⟩ | exact ⟨2, ⟨by omega, trivial⟩, by omega, V.wk⟩ | exact ⟨3, ⟨by omega, trivial⟩, by omega, V.wk⟩ | exact ⟨4, ⟨by omega, trivial⟩, by omega, V.wk⟩
  · obtain ⟨fS, fO, fD, fE, hS, hT, hU⟩ : ∃ (fS : Int → Int → List Int) (fO : Int → Int → Int) (fD : Int → Int → List Int) (fE : Int → Int → Int),
        (∀ a b, Called Try.prog 18 [gridD s2 o2 d2, .int .i64 a, .int .i64 b] (.tup [gridD (fS a b) (fO a b) (fD a b), .int .i64 (fE a b)])) ∧
        (∀ a b, Called Try.prog 19 [gridD s2 o2 d2, .int .i64 a, .int .i64 b] (.tup [gridD (fS a b) (fO a b) (fD a b), .int .i64 (fE a b)])) ∧
        ∀ a b, Called Try.prog 20 [gridD (fS a b) (fO a b) (fD a b), gridD (fS a b) (fO a b) (fD a b)] (.bool true) :=
      ⟨fun a b => if swErr s2 o2 d2 a b = 0 then swp s2 a.toNat b.toNat else [], fun a b => if swErr s2 o2 d2 a b = 0 then o2 else 0, fun a b => if swErr s2 o2 d2 a b = 0 then swData s2 o2 d2 a.toNat b.toNat else [], swErr s2 o2 d2,
       fun a b => swap_c s2 o2 d2 a b (by omega) (by omega), fun a b => rswap_c s2 o2 d2 a b (by omega) (by omega), fun a b => hM _ _ _ (sw_bd s2 o2 d2 a b).1 (sw_bd s2 o2 d2 a b).2⟩
    obtain ⟨gS, gO, gD, gE, hP, hQ, hV⟩ : ∃ (gS : List Int → List Int) (gO : List Int → Int) (gD : List Int → List Int) (gE : List Int → Int),
        (∀ l : List Int, l.length ≤ 100 → Called Try.prog 21 [gridD s2 o2 d2, .ints .i64 l] (.tup [gridD (gS l) (gO l) (gD l), .int .i64 (gE l)])) ∧
        (∀ l : List Int, l.length ≤ 100 → Called Try.prog 22 [gridD s2 o2 d2, .ints .i64 l] (.tup [gridD (gS l) (gO l) (gD l), .int .i64 (gE l)])) ∧
        ∀ l, Called Try.prog 20 [gridD (gS l) (gO l) (gD l), gridD (gS l) (gO l) (gD l)] (.bool true) :=
      ⟨fun l => if pkErr s2 o2 d2 l = 0 then s2 else [], fun l => if pkErr s2 o2 d2 l = 0 then (l.length : Int) else 0, fun l => if pkErr s2 o2 d2 l = 0 then pkData s2 o2 d2 l else [], pkErr s2 o2 d2,
       fun l hl => pick_c s2 o2 d2 l (by omega) (by omega) (by omega), fun l hl => rpick_c s2 o2 d2 l (by omega) (by omega) (by omega), fun l => hM _ _ _ (pk_bd s2 o2 d2 l).1 (pk_bd s2 o2 d2 l).2⟩
    (conv => whnf)
    refine V.st ?_
    refine ⟨(.take 0 (.take 1 (.take 2 (.take 3 (.take 4 (.take 5 (.take 6 (.take 7 (.take 8 (.take 9 (.done))))))))))), ⟨by kernel_rfl, by kernel_rfl, by kernel_rfl⟩, .go ?_⟩
    (conv => whnf)
    refine V.st ?_
    refine ⟨(.take 0 (.take 1 (.take 2 (.take 3 (.take 4 (.take 5 (.take 6 (.take 7 (.take 8 (.take 9 (.take 10 (.take 11 (.take 12 (.take 13 (.take 14 (.take 15 (.take 16 (.take 17 (.take 18 (.take 19 (.take 20 (.take 21 (.done))))))))))))))))))))))), ⟨by kernel_rfl, by kernel_rfl, by kernel_rfl⟩, .go ?_⟩
    (conv => whnf)
    (try simp only [Nat.zero_add, Int.reduceToNat, List.getD_cons_zero, List.getD_cons_succ])
    repeat (first | (refine V.s1 ?_; (try simp only [Nat.zero_add, Int.reduceToNat, List.getD_cons_zero, List.getD_cons_succ])) | ((with_reducible refine recheck_and ?_ ?_); (focus ((conv => whnf); (try simp only [Nat.zero_add, Int.reduceToNat, List.getD_cons_zero, List.getD_cons_succ]); (repeat (refine V.s1 ?_; (try simp only [Nat.zero_add, Int.reduceToNat, List.getD_cons_zero, List.getD_cons_succ]))); exact ⟨rfl⟩)); (conv => whnf); (try simp only [Nat.zero_add, Int.reduceToNat, List.getD_cons_zero, List.getD_cons_succ])))
    refine lp_go (3) (fun k => True) (fun k => [(73, .int .i64 k)]) (fun k => []) V.wk ?_ ?_
    · trivial
    intro k hk _
    have hk2 : k = 3 ∨ k = 0 ∨ k = 1 ∨ k = 2 := by omega
    rcases hk2 with rfl | rfl | rfl | rfl
    · (conv => whnf)
      refine V.st ?_
      refine ⟨(.take 0 (.take 1 (.take 2 (.take 3 (.take 4 (.take 5 (.take 6 (.take 7 (.take 8 (.take 9 (.ev (.cons 10 [] (.take 11 (.done)) (.nil))))))))))))), ⟨by kernel_rfl, by kernel_rfl, by kernel_rfl⟩, .go ?_⟩
      (conv => whnf)
      (try simp only [Nat.zero_add, Int.reduceToNat, List.getD_cons_zero, List.getD_cons_succ])
      repeat (first | (refine V.s1 ?_; (try simp only [Nat.zero_add, Int.reduceToNat, List.getD_cons_zero, List.getD_cons_succ])) | ((with_reducible refine recheck_and ?_ ?_); (focus ((conv => whnf); (try simp only [Nat.zero_add, Int.reduceToNat, List.getD_cons_zero, List.getD_cons_succ]); (repeat (refine V.s1 ?_; (try simp only [Nat.zero_add, Int.reduceToNat, List.getD_cons_zero, List.getD_cons_succ]))); exact ⟨rfl⟩)); (conv => whnf); (try simp only [Nat.zero_add, Int.reduceToNat, List.getD_cons_zero, List.getD_cons_succ])))
      generalize hu2 : x2 % min (max o2 1) 8 = u2 at *
      generalize hu3 : x3 % min (max o2 1) 8 = u3 at *
      refine ⟨(.take 0 (.take 1 (.take 2 (.take 4 (.take 6 (.take 7 (.take 8 (.take 9 (.take 10 (.take 11 (.take 12 (.take 13 (.take 14 (.take 15 (.take 18 (.ev (.cons 3 [18, 15, 14, 13, 12, 11, 10, 9, 8, 7, 6, 4, 1, 0] (.ev (.cons 5 [18, 15, 14, 13, 12, 11, 10, 9, 8, 7, 6, 1, 0] (.ev (.cons 16 [18, 1, 0] (.take 17 (.done)) (.nil))) (.cons 16 [18, 4, 1, 0] (.ev (.cons 5 [18, 1, 0] (.take 17 (.done)) (.nil))) (.nil)))) (.cons 16 [18, 4, 2, 1, 0] (.ev (.cons 3 [18, 4, 1, 0] (.ev (.cons 5 [18, 1, 0] (.take 17 (.done)) (.nil))) (.nil))) (.nil))))))))))))))))))), ⟨by kernel_rfl, by kernel_rfl, by kernel_rfl⟩, ?_⟩
      refine drw_meet [(132, .agg [.ints .i64 ix, .osl 114 0 2, .osl 120 0 (2 + ix.length), .osl 131 0 4]), (133, .int .i64 0)] [(120, .arr .i64 ([u2, u3] ++ ix)), (131, .arr .i64 [0, 0, u2, u3])] ?_ ?_
      · (conv => whnf)
        (try simp only [Nat.zero_add, Int.reduceToNat, List.getD_cons_zero, List.getD_cons_succ, hu2, hu3])
        repeat (first | (refine V.s1 ?_; (try simp only [Nat.zero_add, Int.reduceToNat, List.getD_cons_zero, List.getD_cons_succ, hu2, hu3])) | ((with_reducible refine recheck_and ?_ ?_); (focus ((conv => whnf); (try simp only [Nat.zero_add, Int.reduceToNat, List.getD_cons_zero, List.getD_cons_succ, hu2, hu3]); (repeat (refine V.s1 ?_; (try simp only [Nat.zero_add, Int.reduceToNat, List.getD_cons_zero, List.getD_cons_succ, hu2, hu3]))); exact ⟨rfl⟩)); (conv => whnf); (try simp only [Nat.zero_add, Int.reduceToNat, List.getD_cons_zero, List.getD_cons_succ, hu2, hu3])))
        have htk : List.take 2 [u2, u3] = [u2, u3] := rfl
        refine And.intro ?_ ?_
        · (conv => whnf)
          (try simp only [Nat.zero_add, Nat.add_zero, Int.reduceToNat, List.getD_cons_zero, List.getD_cons_succ, hu2, hu3, List.nil_append, List.drop_zero, List.take_length, htk, List.length_cons, List.length_nil, Nat.reduceAdd])
          repeat (first | (refine V.s1 ?_; (try simp only [Nat.zero_add, Nat.add_zero, Int.reduceToNat, List.getD_cons_zero, List.getD_cons_succ, hu2, hu3, List.nil_append, List.drop_zero, List.take_length, htk, List.length_cons, List.length_nil, Nat.reduceAdd])) | ((with_reducible refine recheck_and ?_ ?_); (focus ((conv => whnf); (try simp only [Nat.zero_add, Nat.add_zero, Int.reduceToNat, List.getD_cons_zero, List.getD_cons_succ, hu2, hu3, List.nil_append, List.drop_zero, List.take_length, htk, List.length_cons, List.length_nil, Nat.reduceAdd]); (repeat (refine V.s1 ?_; (try simp only [Nat.zero_add, Nat.add_zero, Int.reduceToNat, List.getD_cons_zero, List.getD_cons_succ, hu2, hu3, List.nil_append, List.drop_zero, List.take_length, htk, List.length_cons, List.length_nil, Nat.reduceAdd]))); exact ⟨rfl⟩)); (conv => whnf); (try simp only [Nat.zero_add, Nat.add_zero, Int.reduceToNat, List.getD_cons_zero, List.getD_cons_succ, hu2, hu3, List.nil_append, List.drop_zero, List.take_length, htk, List.length_cons, List.length_nil, Nat.reduceAdd])))
          refine .inl ?_
          (conv => whnf)
          refine ⟨0, _, _, ⟨Try.func12, rfl, rfl, Nat.le_of_ble_eq_true rfl⟩, ?_⟩
          (conv => whnf)
          (conv => whnf)
          (try simp only [Nat.zero_add, Nat.add_zero, Int.reduceToNat, List.getD_cons_zero, List.getD_cons_succ, hu2, hu3, List.nil_append, List.drop_zero, List.take_length, htk, List.length_cons, List.length_nil, Nat.reduceAdd])
          repeat (first | (refine V.s1 ?_; (try simp only [Nat.zero_add, Nat.add_zero, Int.reduceToNat, List.getD_cons_zero, List.getD_cons_succ, hu2, hu3, List.nil_append, List.drop_zero, List.take_length, htk, List.length_cons, List.length_nil, Nat.reduceAdd])) | ((with_reducible refine recheck_and ?_ ?_); (focus ((conv => whnf); (try simp only [Nat.zero_add, Nat.add_zero, Int.reduceToNat, List.getD_cons_zero, List.getD_cons_succ, hu2, hu3, List.nil_append, List.drop_zero, List.take_length, htk, List.length_cons, List.length_nil, Nat.reduceAdd]); (repeat (refine V.s1 ?_; (try simp only [Nat.zero_add, Nat.add_zero, Int.reduceToNat, List.getD_cons_zero, List.getD_cons_succ, hu2, hu3, List.nil_append, List.drop_zero, List.take_length, htk, List.length_cons, List.length_nil, Nat.reduceAdd]))); exact ⟨rfl⟩)); (conv => whnf); (try simp only [Nat.zero_add, Nat.add_zero, Int.reduceToNat, List.getD_cons_zero, List.getD_cons_succ, hu2, hu3, List.nil_append, List.drop_zero, List.take_length, htk, List.length_cons, List.length_nil, Nat.reduceAdd])))
          refine And.intro ?_ ?_
          · (conv => whnf)
            (try simp only [Nat.zero_add, Nat.add_zero, Int.reduceToNat, List.getD_cons_zero, List.getD_cons_succ, hu2, hu3, List.nil_append, List.drop_zero, List.take_length, htk, List.length_cons, List.length_nil, Nat.reduceAdd])
            repeat (first | (refine V.s1 ?_; (try simp only [Nat.zero_add, Nat.add_zero, Int.reduceToNat, List.getD_cons_zero, List.getD_cons_succ, hu2, hu3, List.nil_append, List.drop_zero, List.take_length, htk, List.length_cons, List.length_nil, Nat.reduceAdd])) | ((with_reducible refine recheck_and ?_ ?_); (focus ((conv => whnf); (try simp only [Nat.zero_add, Nat.add_zero, Int.reduceToNat, List.getD_cons_zero, List.getD_cons_succ, hu2, hu3, List.nil_append, List.drop_zero, List.take_length, htk, List.length_cons, List.length_nil, Nat.reduceAdd]); (repeat (refine V.s1 ?_; (try simp only [Nat.zero_add, Nat.add_zero, Int.reduceToNat, List.getD_cons_zero, List.getD_cons_succ, hu2, hu3, List.nil_append, List.drop_zero, List.take_length, htk, List.length_cons, List.length_nil, Nat.reduceAdd]))); exact ⟨rfl⟩)); (conv => whnf); (try simp only [Nat.zero_add, Nat.add_zero, Int.reduceToNat, List.getD_cons_zero, List.getD_cons_succ, hu2, hu3, List.nil_append, List.drop_zero, List.take_length, htk, List.length_cons, List.length_nil, Nat.reduceAdd])))
            exact V.wk
          · (conv => whnf)
            (try simp only [Nat.zero_add, Nat.add_zero, Int.reduceToNat, List.getD_cons_zero, List.getD_cons_succ, hu2, hu3, List.nil_append, List.drop_zero, List.take_length, htk, List.length_cons, List.length_nil, Nat.reduceAdd])
            repeat (first | (refine V.s1 ?_; (try simp only [Nat.zero_add, Nat.add_zero, Int.reduceToNat, List.getD_cons_zero, List.getD_cons_succ, hu2, hu3, List.nil_append, List.drop_zero, List.take_length, htk, List.length_cons, List.length_nil, Nat.reduceAdd])) | ((with_reducible refine recheck_and ?_ ?_); (focus ((conv => whnf); (try simp only [Nat.zero_add, Nat.add_zero, Int.reduceToNat, List.getD_cons_zero, List.getD_cons_succ, hu2, hu3, List.nil_append, List.drop_zero, List.take_length, htk, List.length_cons, List.length_nil, Nat.reduceAdd]); (repeat (refine V.s1 ?_; (try simp only [Nat.zero_add, Nat.add_zero, Int.reduceToNat, List.getD_cons_zero, List.getD_cons_succ, hu2, hu3, List.nil_append, List.drop_zero, List.take_length, htk, List.length_cons, List.length_nil, Nat.reduceAdd]))); exact ⟨rfl⟩)); (conv => whnf); (try simp only [Nat.zero_add, Nat.add_zero, Int.reduceToNat, List.getD_cons_zero, List.getD_cons_succ, hu2, hu3, List.nil_append, List.drop_zero, List.take_length, htk, List.length_cons, List.length_nil, Nat.reduceAdd])))
            exact V.wk
        · (conv => whnf)
          (try simp only [Nat.zero_add, Nat.add_zero, Int.reduceToNat, List.getD_cons_zero, List.getD_cons_succ, hu2, hu3, List.nil_append, List.drop_zero, List.take_length, htk, List.length_cons, List.length_nil, Nat.reduceAdd])
          repeat (first | (refine V.s1 ?_; (try simp only [Nat.zero_add, Nat.add_zero, Int.reduceToNat, List.getD_cons_zero, List.getD_cons_succ, hu2, hu3, List.nil_append, List.drop_zero, List.take_length, htk, List.length_cons, List.length_nil, Nat.reduceAdd])) | ((with_reducible refine recheck_and ?_ ?_); (focus ((conv => whnf); (try simp only [Nat.zero_add, Nat.add_zero, Int.reduceToNat, List.getD_cons_zero, List.getD_cons_succ, hu2, hu3, List.nil_append, List.drop_zero, List.take_length, htk, List.length_cons, List.length_nil, Nat.reduceAdd]); (repeat (refine V.s1 ?_; (try simp only [Nat.zero_add, Nat.add_zero, Int.reduceToNat, List.getD_cons_zero, List.getD_cons_succ, hu2, hu3, List.nil_append, List.drop_zero, List.take_length, htk, List.length_cons, List.length_nil, Nat.reduceAdd]))); exact ⟨rfl⟩)); (conv => whnf); (try simp only [Nat.zero_add, Nat.add_zero, Int.reduceToNat, List.getD_cons_zero, List.getD_cons_succ, hu2, hu3, List.nil_append, List.drop_zero, List.take_length, htk, List.length_cons, List.length_nil, Nat.reduceAdd])))
          refine .inl ?_
          (conv => whnf)
          refine ⟨0, _, _, ⟨Try.func12, rfl, rfl, Nat.le_of_ble_eq_true rfl⟩, ?_⟩
          (conv => whnf)
          (conv => whnf)
          (try simp only [Nat.zero_add, Nat.add_zero, Int.reduceToNat, List.getD_cons_zero, List.getD_cons_succ, hu2, hu3, List.nil_append, List.drop_zero, List.take_length, htk, List.length_cons, List.length_nil, Nat.reduceAdd])
          repeat (first | (refine V.s1 ?_; (try simp only [Nat.zero_add, Nat.add_zero, Int.reduceToNat, List.getD_cons_zero, List.getD_cons_succ, hu2, hu3, List.nil_append, List.drop_zero, List.take_length, htk, List.length_cons, List.length_nil, Nat.reduceAdd])) | ((with_reducible refine recheck_and ?_ ?_); (focus ((conv => whnf); (try simp only [Nat.zero_add, Nat.add_zero, Int.reduceToNat, List.getD_cons_zero, List.getD_cons_succ, hu2, hu3, List.nil_append, List.drop_zero, List.take_length, htk, List.length_cons, List.length_nil, Nat.reduceAdd]); (repeat (refine V.s1 ?_; (try simp only [Nat.zero_add, Nat.add_zero, Int.reduceToNat, List.getD_cons_zero, List.getD_cons_succ, hu2, hu3, List.nil_append, List.drop_zero, List.take_length, htk, List.length_cons, List.length_nil, Nat.reduceAdd]))); exact ⟨rfl⟩)); (conv => whnf); (try simp only [Nat.zero_add, Nat.add_zero, Int.reduceToNat, List.getD_cons_zero, List.getD_cons_succ, hu2, hu3, List.nil_append, List.drop_zero, List.take_length, htk, List.length_cons, List.length_nil, Nat.reduceAdd])))
          exact V.wk
      (conv => whnf)
      refine V.st ?_
      refine Lp.pub 114 ?_
      (conv => whnf)
      refine Lp.pub 120 ?_
      (conv => whnf)
      refine Lp.pub 131 ?_
      (conv => whnf)
      refine lp_go (4) (fun k => True) (fun k => [(133, .int .i64 k)]) (fun k => []) V.wk ?_ ?_
      · trivial
      intro k hk _
      have hk2 : k = 4 ∨ k = 0 ∨ k = 1 ∨ k = 2 ∨ k = 3 := by omega
      rcases hk2 with rfl | rfl | rfl | rfl | rfl
      · (conv => whnf)
        refine V.st ?_
        first | exact ⟨1, ⟨by omega, trivial⟩, by omega, V.wk⟩ | exact ⟨2, ⟨by omega, trivial⟩, by omega, V.wk⟩ | exact ⟨3, ⟨by omega, trivial⟩, by omega, V.wk⟩ | exact ⟨4, ⟨by omega, trivial⟩, by omega, V.wk⟩
      all_goals
        (conv => whnf)
        refine V.st ?_
        repeat ((try ((with_reducible refine .ext ?_); (conv => whnf))); (with_reducible refine call_intro (r := ?_) ?_ ?_); rotate_left; (focus (first | exact (hV _) | (refine hP _ ?_; simp; omega) | (refine hQ _ ?_; simp; omega) | (refine hP _ ?_; omega) | (refine hQ _ ?_; omega) | (refine hP _ ?_; simp; done) | (refine hQ _ ?_; simp; done))); (conv => whnf); refine V.st ?_)
        refine Cnd.split (CondB.mk (fun hb => ?_) (fun hb => ?_))
        · simp at hb
        (conv => whnf)
        refine V.st ?_
        first | exact ⟨1, ⟨by omega, trivial⟩, by omega, V.wk⟩ | exact ⟨2, ⟨by omega, trivial⟩, by omega, V.wk⟩ | exact ⟨3, ⟨by omega, trivial⟩, by omega, V.wk⟩ | exact ⟨4, ⟨by omega, trivial⟩, by omega, V.wk⟩
    all_goals
      (conv => whnf)
      refine V.st ?_
      repeat ((try ((with_reducible refine .ext ?_); (conv => whnf))); (with_reducible refine call_intro (r := ?_) ?_ ?_); rotate_left; (focus (first | exact (hS _ _) | exact (hT _ _) | exact (hU _ _))); (conv => whnf); refine V.st ?_)
      refine Cnd.split (CondB.mk (fun hb => ?_) (fun hb => ?_))
      · simp at hb
      (conv => whnf)
      refine V.st ?_
      first | exact ⟨1, ⟨by omega, trivial⟩, by omega, V.wk⟩ | exact ⟨2, ⟨by omega, trivial⟩, by omega, V.wk⟩ | exact ⟨3, ⟨by omega, trivial⟩, by omega, V.wk⟩ | exact ⟨4, ⟨by omega, trivial⟩, by omega, V.wk⟩
  · obtain ⟨fS, fO, fD, fE, hS, hT, hU⟩ : ∃ (fS : Int → Int → List Int) (fO : Int → Int → Int) (fD : Int → Int → List Int) (fE : Int → Int → Int),
        (∀ a b, Called Try.prog 18 [gridD s3 o3 d3, .int .i64 a, .int .i64 b] (.tup [gridD (fS a b) (fO a b) (fD a b), .int .i64 (fE a b)])) ∧
        (∀ a b, Called Try.prog 19 [gridD s3 o3 d3, .int .i64 a, .int .i64 b] (.tup [gridD (fS a b) (fO a b) (fD a b), .int .i64 (fE a b)])) ∧
        ∀ a b, Called Try.prog 20 [gridD (fS a b) (fO a b) (fD a b), gridD (fS a b) (fO a b) (fD a b)] (.bool true) :=
      ⟨fun a b => if swErr s3 o3 d3 a b = 0 then swp s3 a.toNat b.toNat else [], fun a b => if swErr s3 o3 d3 a b = 0 then o3 else 0, fun a b => if swErr s3 o3 d3 a b = 0 then swData s3 o3 d3 a.toNat b.toNat else [], swErr s3 o3 d3,
       fun a b => swap_c s3 o3 d3 a b (by omega) (by omega), fun a b => rswap_c s3 o3 d3 a b (by omega) (by omega), fun a b => hM _ _ _ (sw_bd s3 o3 d3 a b).1 (sw_bd s3 o3 d3 a b).2⟩
    obtain ⟨gS, gO, gD, gE, hP, hQ, hV⟩ : ∃ (gS : List Int → List Int) (gO : List Int → Int) (gD : List Int → List Int) (gE : List Int → Int),
        (∀ l : List Int, l.length ≤ 100 → Called Try.prog 21 [gridD s3 o3 d3, .ints .i64 l] (.tup [gridD (gS l) (gO l) (gD l), .int .i64 (gE l)])) ∧
        (∀ l : List Int, l.length ≤ 100 → Called Try.prog 22 [gridD s3 o3 d3, .ints .i64 l] (.tup [gridD (gS l) (gO l) (gD l), .int .i64 (gE l)])) ∧
        ∀ l, Called Try.prog 20 [gridD (gS l) (gO l) (gD l), gridD (gS l) (gO l) (gD l)] (.bool true) :=
      ⟨fun l => if pkErr s3 o3 d3 l = 0 then s3 else [], fun l => if pkErr s3 o3 d3 l = 0 then (l.length : Int) else 0, fun l => if pkErr s3 o3 d3 l = 0 then pkData s3 o3 d3 l else [], pkErr s3 o3 d3,
       fun l hl => pick_c s3 o3 d3 l (by omega) (by omega) (by omega), fun l hl => rpick_c s3 o3 d3 l (by omega) (by omega) (by omega), fun l => hM _ _ _ (pk_bd s3 o3 d3 l).1 (pk_bd s3 o3 d3 l).2⟩
    (conv => whnf)
    refine V.st ?_
    refine ⟨(.take 0 (.take 1 (.take 2 (.take 3 (.take 4 (.take 5 (.take 6 (.take 7 (.take 8 (.take 9 (.done))))))))))), ⟨by kernel_rfl, by kernel_rfl, by kernel_rfl⟩, .go ?_⟩
    (conv => whnf)
    refine V.st ?_
    refine ⟨(.take 0 (.take 1 (.take 2 (.take 3 (.take 4 (.take 5 (.take 6 (.take 7 (.take 8 (.take 9 (.take 10 (.take 11 (.take 12 (.take 13 (.take 14 (.take 15 (.take 16 (.take 17 (.take 18 (.take 19 (.take 20 (.take 21 (.done))))))))))))))))))))))), ⟨by kernel_rfl, by kernel_rfl, by kernel_rfl⟩, .go ?_⟩
    (conv => whnf)
    (try simp only [Nat.zero_add, Int.reduceToNat, List.getD_cons_zero, List.getD_cons_succ])
    repeat (first | (refine V.s1 ?_; (try simp only [Nat.zero_add, Int.reduceToNat, List.getD_cons_zero, List.getD_cons_succ])) | ((with_reducible refine recheck_and ?_ ?_); (focus ((conv => whnf); (try simp only [Nat.zero_add, Int.reduceToNat, List.getD_cons_zero, List.getD_cons_succ]); (repeat (refine V.s1 ?_; (try simp only [Nat.zero_add, Int.reduceToNat, List.getD_cons_zero, List.getD_cons_succ]))); exact ⟨rfl⟩)); (conv => whnf); (try simp only [Nat.zero_add, Int.reduceToNat, List.getD_cons_zero, List.getD_cons_succ])))
    refine lp_go (3) (fun k => True) (fun k => [(73, .int .i64 k)]) (fun k => []) V.wk ?_ ?_
    · trivial
    intro k hk _
    have hk2 : k = 3 ∨ k = 0 ∨ k = 1 ∨ k = 2 := by omega
    rcases hk2 with rfl | rfl | rfl | rfl
    · (conv => whnf)
      refine V.st ?_
      refine ⟨(.take 0 (.take 1 (.take 2 (.take 3 (.take 4 (.take 5 (.take 6 (.take 7 (.take 8 (.take 9 (.ev (.cons 10 [] (.take 11 (.done)) (.nil))))))))))))), ⟨by kernel_rfl, by kernel_rfl, by kernel_rfl⟩, .go ?_⟩
      (conv => whnf)
      (try simp only [Nat.zero_add, Int.reduceToNat, List.getD_cons_zero, List.getD_cons_succ])
      repeat (first | (refine V.s1 ?_; (try simp only [Nat.zero_add, Int.reduceToNat, List.getD_cons_zero, List.getD_cons_succ])) | ((with_reducible refine recheck_and ?_ ?_); (focus ((conv => whnf); (try simp only [Nat.zero_add, Int.reduceToNat, List.getD_cons_zero, List.getD_cons_succ]); (repeat (refine V.s1 ?_; (try simp only [Nat.zero_add, Int.reduceToNat, List.getD_cons_zero, List.getD_cons_succ]))); exact ⟨rfl⟩)); (conv => whnf); (try simp only [Nat.zero_add, Int.reduceToNat, List.getD_cons_zero, List.getD_cons_succ])))
      generalize hu2 : x2 % min (max o3 1) 8 = u2 at *
      generalize hu3 : x3 % min (max o3 1) 8 = u3 at *
      refine ⟨(.take 0 (.take 1 (.take 2 (.take 4 (.take 6 (.take 7 (.take 8 (.take 9 (.take 10 (.take 11 (.take 12 (.take 13 (.take 14 (.take 15 (.take 18 (.ev (.cons 3 [18, 15, 14, 13, 12, 11, 10, 9, 8, 7, 6, 4, 1, 0] (.ev (.cons 5 [18, 15, 14, 13, 12, 11, 10, 9, 8, 7, 6, 1, 0] (.ev (.cons 16 [18, 1, 0] (.take 17 (.done)) (.nil))) (.cons 16 [18, 4, 1, 0] (.ev (.cons 5 [18, 1, 0] (.take 17 (.done)) (.nil))) (.nil)))) (.cons 16 [18, 4, 2, 1, 0] (.ev (.cons 3 [18, 4, 1, 0] (.ev (.cons 5 [18, 1, 0] (.take 17 (.done)) (.nil))) (.nil))) (.nil))))))))))))))))))), ⟨by kernel_rfl, by kernel_rfl, by kernel_rfl⟩, ?_⟩
      refine drw_meet [(132, .agg [.ints .i64 ix, .osl 114 0 2, .osl 120 0 (2 + ix.length), .osl 131 0 4]), (133, .int .i64 0)] [(120, .arr .i64 ([u2, u3] ++ ix)), (131, .arr .i64 [0, 0, u2, u3])] ?_ ?_
      · (conv => whnf)
        (try simp only [Nat.zero_add, Int.reduceToNat, List.getD_cons_zero, List.getD_cons_succ, hu2, hu3])
        repeat (first | (refine V.s1 ?_; (try simp only [Nat.zero_add, Int.reduceToNat, List.getD_cons_zero, List.getD_cons_succ, hu2, hu3])) | ((with_reducible refine recheck_and ?_ ?_); (focus ((conv => whnf); (try simp only [Nat.zero_add, Int.reduceToNat, List.getD_cons_zero, List.getD_cons_succ, hu2, hu3]); (repeat (refine V.s1 ?_; (try simp only [Nat.zero_add, Int.reduceToNat, List.getD_cons_zero, List.getD_cons_succ, hu2, hu3]))); exact ⟨rfl⟩)); (conv => whnf); (try simp only [Nat.zero_add, Int.reduceToNat, List.getD_cons_zero, List.getD_cons_succ, hu2, hu3])))
        have htk : List.take 2 [u2, u3] = [u2, u3] := rfl
        refine And.intro ?_ ?_
        · (conv => whnf)
          (try simp only [Nat.zero_add, Nat.add_zero, Int.reduceToNat, List.getD_cons_zero, List.getD_cons_succ, hu2, hu3, List.nil_append, List.drop_zero, List.take_length, htk, List.length_cons, List.length_nil, Nat.reduceAdd])
          repeat (first | (refine V.s1 ?_; (try simp only [Nat.zero_add, Nat.add_zero, Int.reduceToNat, List.getD_cons_zero, List.getD_cons_succ, hu2, hu3, List.nil_append, List.drop_zero, List.take_length, htk, List.length_cons, List.length_nil, Nat.reduceAdd])) | ((with_reducible refine recheck_and ?_ ?_); (focus ((conv => whnf); (try simp only [Nat.zero_add, Nat.add_zero, Int.reduceToNat, List.getD_cons_zero, List.getD_cons_succ, hu2, hu3, List.nil_append, List.drop_zero, List.take_length, htk, List.length_cons, List.length_nil, Nat.reduceAdd]); (repeat (refine V.s1 ?_; (try simp only [Nat.zero_add, Nat.add_zero, Int.reduceToNat, List.getD_cons_zero, List.getD_cons_succ, hu2, hu3, List.nil_append, List.drop_zero, List.take_length, htk, List.length_cons, List.length_nil, Nat.reduceAdd]))); exact ⟨rfl⟩)); (conv => whnf); (try simp only [Nat.zero_add, Nat.add_zero, Int.reduceToNat, List.getD_cons_zero, List.getD_cons_succ, hu2, hu3, List.nil_append, List.drop_zero, List.take_length, htk, List.length_cons, List.length_nil, Nat.reduceAdd])))
          refine .inl ?_
          (conv => whnf)
          refine ⟨0, _, _, ⟨Try.func12, rfl, rfl, Nat.le_of_ble_eq_true rfl⟩, ?_⟩
          (conv => whnf)
          (conv => whnf)
          (try simp only [Nat.zero_add, Nat.add_zero, Int.reduceToNat, List.getD_cons_zero, List.getD_cons_succ, hu2, hu3, List.nil_append, List.drop_zero, List.take_length, htk, List.length_cons, List.length_nil, Nat.reduceAdd])
          repeat (first | (refine V.s1 ?_; (try simp only [Nat.zero_add, Nat.add_zero, Int.reduceToNat, List.getD_cons_zero, List.getD_cons_succ, hu2, hu3, List.nil_append, List.drop_zero, List.take_length, htk, List.length_cons, List.length_nil, Nat.reduceAdd])) | ((with_reducible refine recheck_and ?_ ?_); (focus ((conv => whnf); (try simp only [Nat.zero_add, Nat.add_zero, Int.reduceToNat, List.getD_cons_zero, List.getD_cons_succ, hu2, hu3, List.nil_append, List.drop_zero, List.take_length, htk, List.length_cons, List.length_nil, Nat.reduceAdd]); (repeat (refine V.s1 ?_; (try simp only [Nat.zero_add, Nat.add_zero, Int.reduceToNat, List.getD_cons_zero, List.getD_cons_succ, hu2, hu3, List.nil_append, List.drop_zero, List.take_length, htk, List.length_cons, List.length_nil, Nat.reduceAdd]))); exact ⟨rfl⟩)); (conv => whnf); (try simp only [Nat.zero_add, Nat.add_zero, Int.reduceToNat, List.getD_cons_zero, List.getD_cons_succ, hu2, hu3, List.nil_append, List.drop_zero, List.take_length, htk, List.length_cons, List.length_nil, Nat.reduceAdd])))
          refine And.intro ?_ ?_
          · (conv => whnf)
            (try simp only [Nat.zero_add, Nat.add_zero, Int.reduceToNat, List.getD_cons_zero, List.getD_cons_succ, hu2, hu3, List.nil_append, List.drop_zero, List.take_length, htk, List.length_cons, List.length_nil, Nat.reduceAdd])
            repeat (first | (refine V.s1 ?_; (try simp only [Nat.zero_add, Nat.add_zero, Int.reduceToNat, List.getD_cons_zero, List.getD_cons_succ, hu2, hu3, List.nil_append, List.drop_zero, List.take_length, htk, List.length_cons, List.length_nil, Nat.reduceAdd])) | ((with_reducible refine recheck_and ?_ ?_); (focus ((conv => whnf); (try simp only [Nat.zero_add, Nat.add_zero, Int.reduceToNat, List.getD_cons_zero, List.getD_cons_succ, hu2, hu3, List.nil_append, List.drop_zero, List.take_length, htk, List.length_cons, List.length_nil, Nat.reduceAdd]); (repeat (refine V.s1 ?_; (try simp only [Nat.zero_add, Nat.add_zero, Int.reduceToNat, List.getD_cons_zero, List.getD_cons_succ, hu2, hu3, List.nil_append, List.drop_zero, List.take_length, htk, List.length_cons, List.length_nil, Nat.reduceAdd]))); exact ⟨rfl⟩)); (conv => whnf); (try simp only [Nat.zero_add, Nat.add_zero, Int.reduceToNat, List.getD_cons_zero, List.getD_cons_succ, hu2, hu3, List.nil_append, List.drop_zero, List.take_length, htk, List.length_cons, List.length_nil, Nat.reduceAdd])))
            exact V.wk
          · (conv => whnf)
            (try simp only [Nat.zero_add, Nat.add_zero, Int.reduceToNat, List.getD_cons_zero, List.getD_cons_succ, hu2, hu3, List.nil_append, List.drop_zero, List.take_length, htk, List.length_cons, List.length_nil, Nat.reduceAdd])
            repeat (first | (refine V.s1 ?_; (try simp only [Nat.zero_add, Nat.add_zero, Int.reduceToNat, List.getD_cons_zero, List.getD_cons_succ, hu2, hu3, List.nil_append, List.drop_zero, List.take_length, htk, List.length_cons, List.length_nil, Nat.reduceAdd])) | ((with_reducible refine recheck_and ?_ ?_); (focus ((conv => whnf); (try simp only [Nat.zero_add, Nat.add_zero, Int.reduceToNat, List.getD_cons_zero, List.getD_cons_succ, hu2, hu3, List.nil_append, List.drop_zero, List.take_length, htk, List.length_cons, List.length_nil, Nat.reduceAdd]); (repeat (refine V.s1 ?_; (try simp only [Nat.zero_add, Nat.add_zero, Int.reduceToNat, List.getD_cons_zero, List.getD_cons_succ, hu2, hu3, List.nil_append, List.drop_zero, List.take_length, htk, List.length_cons, List.length_nil, Nat.reduceAdd]))); exact ⟨rfl⟩)); (conv => whnf); (try simp only [Nat.zero_add, Nat.add_zero, Int.reduceToNat, List.getD_cons_zero, List.getD_cons_succ, hu2, hu3, List.nil_append, List.drop_zero, List.take_length, htk, List.length_cons, List.length_nil, Nat.reduceAdd])))
            exact V.wk
        · (conv => whnf)
          (try simp only [Nat.zero_add, Nat.add_zero, Int.reduceToNat, List.getD_cons_zero, List.getD_cons_succ, hu2, hu3, List.nil_append, List.drop_zero, List.take_length, htk, List.length_cons, List.length_nil, Nat.reduceAdd])
          repeat (first | (refine V.s1 ?_; (try simp only [Nat.zero_add, Nat.add_zero, Int.reduceToNat, List.getD_cons_zero, List.getD_cons_succ, hu2, hu3, List.nil_append, List.drop_zero, List.take_length, htk, List.length_cons, List.length_nil, Nat.reduceAdd])) | ((with_reducible refine recheck_and ?_ ?_); (focus ((conv => whnf); (try simp only [Nat.zero_add, Nat.add_zero, Int.reduceToNat, List.getD_cons_zero, List.getD_cons_succ, hu2, hu3, List.nil_append, List.drop_zero, List.take_length, htk, List.length_cons, List.length_nil, Nat.reduceAdd]); (repeat (refine V.s1 ?_; (try simp only [Nat.zero_add, Nat.add_zero, Int.reduceToNat, List.getD_cons_zero, List.getD_cons_succ, hu2, hu3, List.nil_append, List.drop_zero, List.take_length, htk, List.length_cons, List.length_nil, Nat.reduceAdd]))); exact ⟨rfl⟩)); (conv => whnf); (try simp only [Nat.zero_add, Nat.add_zero, Int.reduceToNat, List.getD_cons_zero, List.getD_cons_succ, hu2, hu3, List.nil_append, List.drop_zero, List.take_length, htk, List.length_cons, List.length_nil, Nat.reduceAdd])))
          refine .inl ?_
          (conv => whnf)
          refine ⟨0, _, _, ⟨Try.func12, rfl, rfl, Nat.le_of_ble_eq_true rfl⟩, ?_⟩
          (conv => whnf)
          (conv => whnf)
          (try simp only [Nat.zero_add, Nat.add_zero, Int.reduceToNat, List.getD_cons_zero, List.getD_cons_succ, hu2, hu3, List.nil_append, List.drop_zero, List.take_length, htk, List.length_cons, List.length_nil, Nat.reduceAdd])
          repeat (first | (refine V.s1 ?_; (try simp only [Nat.zero_add, Nat.add_zero, Int.reduceToNat, List.getD_cons_zero, List.getD_cons_succ, hu2, hu3, List.nil_append, List.drop_zero, List.take_length, htk, List.length_cons, List.length_nil, Nat.reduceAdd])) | ((with_reducible refine recheck_and ?_ ?_); (focus ((conv => whnf); (try simp only [Nat.zero_add, Nat.add_zero, Int.reduceToNat, List.getD_cons_zero, List.getD_cons_succ, hu2, hu3, List.nil_append, List.drop_zero, List.take_length, htk, List.length_cons, List.length_nil, Nat.reduceAdd]); (repeat (refine V.s1 ?_; (try simp only [Nat.zero_add, Nat.add_zero, Int.reduceToNat, List.getD_cons_zero, List.getD_cons_succ, hu2, hu3, List.nil_append, List.drop_zero, List.take_length, htk, List.length_cons, List.length_nil, Nat.reduceAdd]))); exact ⟨rfl⟩)); (conv => whnf); (try simp only [Nat.zero_add, Nat.add_zero, Int.reduceToNat, List.getD_cons_zero, List.getD_cons_succ, hu2, hu3, List.nil_append, List.drop_zero, List.take_length, htk, List.length_cons, List.length_nil, Nat.reduceAdd])))
          exact V.wk
      (conv => whnf)
      refine V.st ?_
      refine Lp.pub 114 ?_
      (conv => whnf)
      refine Lp.pub 120 ?_
      (conv => whnf)
      refine Lp.pub 131 ?_
      (conv => whnf)
      refine lp_go (4) (fun k => True) (fun k => [(133, .int .i64 k)]) (fun k => []) V.wk ?_ ?_
      · trivial
      intro k hk _
      have hk2 : k = 4 ∨ k = 0 ∨ k = 1 ∨ k = 2 ∨ k = 3 := by omega
      rcases hk2 with rfl | rfl | rfl | rfl | rfl
      · (conv => whnf)
        refine V.st ?_
        first | exact ⟨1, ⟨by omega, trivial⟩, by omega, V.wk⟩ | exact ⟨2, ⟨by omega, trivial⟩, by omega, V.wk⟩ | exact ⟨3, ⟨by omega, trivial⟩, by omega, V.wk⟩ | exact ⟨4, ⟨by omega, trivial⟩, by omega, V.wk⟩
      all_goals
        (conv => whnf)
        refine V.st ?_
        repeat ((try ((with_reducible refine .ext ?_); (conv => whnf))); (with_reducible refine call_intro (r := ?_) ?_ ?_); rotate_left; (focus (first | exact (hV _) | (refine hP _ ?_; simp; omega) | (refine hQ _ ?_; simp; omega) | (refine hP _ ?_; omega) | (refine hQ _ ?_; omega) | (refine hP _ ?_; simp; done) | (refine hQ _ ?_; simp; done))); (conv => whnf); refine V.st ?_)
        refine Cnd.split (CondB.mk (fun hb => ?_) (fun hb => ?_))
        · simp at hb
        (conv => whnf)
        refine V.st ?_
        first | exact ⟨1, ⟨by omega, trivial⟩, by omega, V.wk⟩ | exact ⟨2, ⟨by omega, trivial⟩, by omega, V.wk⟩ | exact ⟨3, ⟨by omega, trivial⟩, by omega, V.wk⟩ | exact ⟨4, ⟨by omega, trivial⟩, by omega, V.wk⟩
    all_goals
      (conv => whnf)
      refine V.st ?_
      repeat ((try ((with_reducible refine .ext ?_); (conv => whnf))); (with_reducible refine call_intro (r := ?_) ?_ ?_); rotate_left; (focus (first | exact (hS _ _) | exact (hT _ _) | exact (hU _ _))); (conv => whnf); refine V.st ?_)
      refine Cnd.split (CondB.mk (fun hb => ?_) (fun hb => ?_))
      · simp at hb
      (conv => whnf)
      refine V.st ?_
      first | exact ⟨1, ⟨by omega, trivial⟩, by omega, V.wk⟩ | exact ⟨2, ⟨by omega, trivial⟩, by omega, V.wk⟩ | exact ⟨3, ⟨by omega, trivial⟩, by omega, V.wk⟩ | exact ⟨4, ⟨by omega, trivial⟩, by omega, V.wk⟩
end Go.Proofs.Ytfhmfpneiagakaa
