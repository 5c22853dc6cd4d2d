/- What some functions of the program answer at values that mean given lists and numbers, each proved of the program's own code. Conditions: those that each theorem names. -/
import Derived.Test.YtfhmfpneiagakaaP3
import Derived.Test.YtfhmfpneiagakaaT19
set_option linter.unusedSimpArgs false
set_option linter.unusedVariables false
set_option maxHeartbeats 8000000
set_option maxRecDepth 100000
namespace Go.Proofs.Ytfhmfpneiagakaa
open Go Go.V Go.Gr
theorem swaps_c (ds : List Int) (o : Int) (vals : List Int) (sm : Bool) (a b n : Int) (hd : ∀ v ∈ ds, 0 ≤ v ∧ v ≤ 255) (hdl : ds.length ≤ 281474976710656) (ho : 0 ≤ o ∧ o ≤ 255) (hv : ∀ v ∈ vals, 0 ≤ v ∧ v ≤ 65535) (hvl : vals.length ≤ 281474976710656)
    (ha : 0 ≤ a ∧ a ≤ 255) (hb : 0 ≤ b ∧ b ≤ 255) (hn : 0 ≤ n ∧ n ≤ 65535) :
    Called Try.prog 8 [draftD ds o vals sm, .int .u8 a, .int .u8 b, .int .u16 n] (.bool true) := by
  have hbb := nsD_bd ds
  have hwb := wD_bd o
  have hdr := draft_c ds o vals sm hd hdl ho hv hvl
  have hg := draft_ok ds o vals sm hv
  generalize nsD ds = ns at *
  generalize wD o = w at *
  generalize dData ds o vals sm = data at *
  have hG := okGrid_iff hg
  have hp : ∀ n ∈ ns, 2 ≤ n ∧ n ≤ 9 := fun n hn => by have := hbb.2 n hn; omega
  have hpos : ∀ n ∈ ns, 0 < n := fun n hn => by have := hbb.2 n hn; omega
  have hns : (nz ns).length = ns.length := by simp [nz]
  have hPR0 := PR_pos hpos
  have hPR := PR_le (by omega) hp
  have hdl : data.length = PR ns * w := by
    have := hG.2.2.2.2.2.2.1
    rw [prod_nz, ← Int.natCast_mul] at this
    omega
  -- the inputs and the point
  have hlp : (0 : Int) < (nz ns).length := by omega
  obtain ⟨i, hi, hi2⟩ : ∃ i : Nat, a % ((nz ns).length : Int) = i ∧ i < ns.length := ⟨(a % ((nz ns).length : Int)).toNat, by have := Int.emod_nonneg a (by omega : ((nz ns).length : Int) ≠ 0); omega, by have := Int.emod_lt_of_pos a hlp; omega⟩
  obtain ⟨k, hk, hk2⟩ : ∃ k : Nat, b % ((nz ns).length : Int) = k ∧ k < ns.length := ⟨(b % ((nz ns).length : Int)).toNat, by have := Int.emod_nonneg b (by omega : ((nz ns).length : Int) ≠ 0); omega, by have := Int.emod_lt_of_pos b hlp; omega⟩
  have hq : (data.length : Int) / (w : Int) = (PR ns : Nat) := by
    rw [hdl, Int.natCast_mul]
    exact Int.mul_ediv_cancel _ (by omega)
  obtain ⟨m, hm, hm2⟩ : ∃ m : Nat, n % ((PR ns : Nat) : Int) = m ∧ m < PR ns := ⟨(n % ((PR ns : Nat) : Int)).toNat, by have := Int.emod_nonneg n (by omega : ((PR ns : Nat) : Int) ≠ 0); omega, by have := Int.emod_lt_of_pos n (by omega : (0 : Int) < (PR ns : Nat)); omega⟩
  obtain ⟨l1, l2, l3, l4, l5⟩ := swap_law hg hp hi2 hk2
  have e1 : swp (nz ns) i k = nz (swn ns i k) := swp_map hi2 hk2
  have hs1 : ((nz (swn ns i k)).length) = ns.length := by simp [nz, swn_length]
  have hc : ∀ (s : List Int) (d : List Int) (x y : Nat), okGrid s w d = true → s.length ≤ 10 → d.length ≤ 100000 → x < s.length → y < s.length → Called Try.prog 18 [gridD s w d, .int .i64 x, .int .i64 y] (.tup [gridD (swp s x y) w (swData s w d x y), .int .i64 0]) := fun s d x y h1 h2 h3 h4 h5 => by
    have hE : swErr s w d x y = 0 := by
      unfold swErr
      rw [h1, if_pos rfl, if_pos ⟨by omega, by omega⟩]
    refine Called.cast (swap_c s w d x y (by omega) (by omega)) ?_
    unfold swR
    rw [hE]
    simp
  have hdl2 : (swData (nz ns) w data i k).length = data.length := by
    have h6 := (okGrid_iff l1).2.2.2.2.2.2.1
    rw [prod_nz, PR_swn hi2 hk2, ← Int.natCast_mul] at h6
    omega
  have hS1 := Called.cast (hc (nz ns) data i k hg (by omega) (by omega) (by omega) (by omega)) (by rw [e1])
  have hS2 := Called.cast (hc (nz (swn ns i k)) (swData (nz ns) w data i k) k i l1 (by omega) (by omega) (by omega) (by omega)) (by rw [l2, l3])
  have hR1 : Called Try.prog 27 [gridD (nz ns) w data] (.tup [.ints .i64 (rl (fun a b => decide (a < b)) data w data.length), .ints .i64 (rl (fun a b => decide (a > b)) data w data.length), .int .i64 0]) :=
    Called.cast (range_c (nz ns) w data (by omega) (by omega)) (by rw [hg, Int.toNat_natCast]; rfl)
  have hR2 : Called Try.prog 27 [gridD (nz (swn ns i k)) w (swData (nz ns) w data i k)] (.tup [.ints .i64 (rl (fun a b => decide (a < b)) data w data.length), .ints .i64 (rl (fun a b => decide (a > b)) data w data.length), .int .i64 0]) :=
    Called.cast (range_c (nz (swn ns i k)) w (swData (nz ns) w data i k) (by omega) (by omega)) (by rw [l1, Int.toNat_natCast, if_pos rfl, if_pos rfl, l5 _ ord_lt, l5 _ ord_gt]; rfl)
  have hSm : Called Try.prog 31 [gridD (nz ns) w data, gridD (nz ns) w data] (.bool true) := Called.cast (same_c _ _ _ _ _ _ (by omega) (by omega) (by omega) (by omega)) (by simp)
  have hrl : ∀ lt, (rl lt data w data.length).length ≤ 4 := fun lt => by
    rw [rl_length (by rw [hdl]; exact Nat.le_mul_of_pos_left _ hPR0)]
    omega
  have hE : ∀ xs : List Int, xs.length ≤ 4 → Called Try.prog 17 [.ints .i64 xs, .ints .i64 xs] (.bool true) := fun xs h => Called.cast (equal_c xs xs (by omega) (by omega)) (by simp)
  have hE1 := hE _ (hrl fun a b => decide (a < b))
  have hE2 := hE _ (hrl fun a b => decide (a > b))
  have hIx := index_c ns m (fun n hn => by have := hp n hn; omega) (by omega) (by omega)
  have hA1 := (place_at hg hpos hm2 (by omega) (by omega) (by omega)).2
  have hil := ixl_length ns m
  have hA2 : Called Try.prog 15 [gridD (nz (swn ns i k)) w (swData (nz ns) w data i k), .ints .i64 (swp (ixl ns m) i k)] (.tup [.ints .i64 (slot data ((m * w : Nat) : Int) w), .int .i64 0]) :=
    Called.cast (gat_c _ _ _ _ (by omega) (by omega) (by rw [swp_length]; omega)) (by rw [l1, (l4 m hm2).1, (l4 m hm2).2]; rfl)
  have hsl := slot_m hdl hm2
  have hE3 := hE _ (by rw [hsl]; omega : (slot data ((m * w : Nat) : Int) w).length ≤ 4)
  generalize swData (nz ns) w data i k = data2 at *
  generalize nz (swn ns i k) = size2 at *
  refine called_of_run tbOk 6 ⟨Try.func8, rfl, rfl, Nat.le_of_ble_eq_true rfl⟩ ?_
  (conv => whnf)
  refine V.st ?_
  repeat ((try ((with_reducible refine .ext ?_); (conv => whnf))); (with_reducible refine call_intro (r := ?_) ?_ ?_); rotate_left; (focus (first | exact (wakes_c) | exact (hdr))); (conv => whnf); refine V.st ?_)
  refine ⟨(.take 0 (.take 1 (.take 2 (.take 3 (.take 4 (.take 5 (.take 6 (.take 7 (.take 8 (.take 9 (.take 10 (.take 11 (.take 12 (.take 13 (.done))))))))))))))), ⟨by kernel_rfl, by kernel_rfl, by kernel_rfl⟩, .go ?_⟩
  (conv => whnf)
  (try simp only [hi, hk])
  repeat (first | (refine V.s1 ?_; (try simp only [hi, hk])) | ((with_reducible refine recheck_and ?_ ?_); (focus ((conv => whnf); (try simp only [hi, hk]); (repeat (refine V.s1 ?_; (try simp only [hi, hk]))); exact ⟨rfl⟩)); (conv => whnf); (try simp only [hi, hk])) | ((try ((with_reducible refine .ext ?_); (conv => whnf); (try simp only [hi, hk]))); (with_reducible refine call_intro (r := ?_) ?_ ?_); rotate_left; (focus (first | exact (hS1) | exact (hS2) | exact (hR1) | exact (hR2) | exact (hSm) | exact (hE1) | exact (hE2))); (conv => whnf); (try simp only [hi, hk])))
  refine ⟨(.take 0 (.take 1 (.take 2 (.take 3 (.take 4 (.take 5 (.take 6 (.take 7 (.take 8 (.take 9 (.take 10 (.ev (.cons 11 [] (.take 12 (.done)) (.nil)))))))))))))), ⟨by kernel_rfl, by kernel_rfl, by kernel_rfl⟩, .go ?_⟩
  (conv => whnf)
  (try simp only [hq, hm])
  repeat (first | (refine V.s1 ?_; (try simp only [hq, hm])) | ((with_reducible refine recheck_and ?_ ?_); (focus ((conv => whnf); (try simp only [hq, hm]); (repeat (refine V.s1 ?_; (try simp only [hq, hm]))); exact ⟨rfl⟩)); (conv => whnf); (try simp only [hq, hm])) | ((try ((with_reducible refine .ext ?_); (conv => whnf); (try simp only [hq, hm]))); (with_reducible refine call_intro (r := ?_) ?_ ?_); rotate_left; (focus (first | exact (hIx))); (conv => whnf); (try simp only [hq, hm])))
  refine .inl ?_
  (conv => whnf)
  refine ⟨0, _, _, ⟨Try.func12, rfl, rfl, Nat.le_of_ble_eq_true rfl⟩, ?_⟩
  (conv => whnf)
  refine AnyB.mk (fun h => ?_) (fun _ => ?_)
  · have h1 := h rfl
    rw [h1, List.length_nil] at hil
    omega
  (conv => whnf)
  (try simp only [List.nil_append, Nat.zero_add])
  repeat (first | (refine V.s1 ?_; (try simp only [List.nil_append, Nat.zero_add])) | ((with_reducible refine recheck_and ?_ ?_); (focus ((conv => whnf); (try simp only [List.nil_append, Nat.zero_add]); (repeat (refine V.s1 ?_; (try simp only [List.nil_append, Nat.zero_add]))); exact ⟨rfl⟩)); (conv => whnf); (try simp only [List.nil_append, Nat.zero_add])))
  try refine And.intro (fun _ => ⟨rfl, by omega⟩) ?_
  (conv => whnf)
  (try simp only [List.nil_append, Nat.zero_add])
  repeat (first | (refine V.s1 ?_; (try simp only [List.nil_append, Nat.zero_add])) | ((with_reducible refine recheck_and ?_ ?_); (focus ((conv => whnf); (try simp only [List.nil_append, Nat.zero_add]); (repeat (refine V.s1 ?_; (try simp only [List.nil_append, Nat.zero_add]))); exact ⟨rfl⟩)); (conv => whnf); (try simp only [List.nil_append, Nat.zero_add])))
  refine ⟨(.take 0 (.take 1 (.take 2 (.take 3 (.take 4 (.take 5 (.take 6 (.take 7 (.take 8 (.take 9 (.take 10 (.take 11 (.take 12 (.ev (.cons 13 [3, 2] (.take 14 (.ev (.cons 15 [] (.done) (.nil)))) (.nil)))))))))))))))), ⟨by kernel_rfl, by kernel_rfl, by kernel_rfl⟩, .go ?_⟩
  (conv => whnf)
  (try simp only [Int.toNat_natCast, Nat.zero_add])
  repeat (first | (refine V.s1 ?_; (try simp only [Int.toNat_natCast, Nat.zero_add])) | ((with_reducible refine recheck_and ?_ ?_); (focus ((conv => whnf); (try simp only [Int.toNat_natCast, Nat.zero_add]); (repeat (refine V.s1 ?_; (try simp only [Int.toNat_natCast, Nat.zero_add]))); exact ⟨rfl⟩)); (conv => whnf); (try simp only [Int.toNat_natCast, Nat.zero_add])))
  have htk : List.take (ixl ns m).length (((ixl ns m).set i ((ixl ns m).getD k 0)).set k ((ixl ns m).getD i 0)) = swp (ixl ns m) i k := by
    rw [List.take_of_length_le (by simp)]
    rfl
  (conv => whnf)
  (try simp only [Int.toNat_natCast, Nat.zero_add, List.drop_zero, htk])
  repeat (first | (refine V.s1 ?_; (try simp only [Int.toNat_natCast, Nat.zero_add, List.drop_zero, htk])) | ((with_reducible refine recheck_and ?_ ?_); (focus ((conv => whnf); (try simp only [Int.toNat_natCast, Nat.zero_add, List.drop_zero, htk]); (repeat (refine V.s1 ?_; (try simp only [Int.toNat_natCast, Nat.zero_add, List.drop_zero, htk]))); exact ⟨rfl⟩)); (conv => whnf); (try simp only [Int.toNat_natCast, Nat.zero_add, List.drop_zero, htk])) | ((try ((with_reducible refine .ext ?_); (conv => whnf); (try simp only [Int.toNat_natCast, Nat.zero_add, List.drop_zero, htk]))); (with_reducible refine call_intro (r := ?_) ?_ ?_); rotate_left; (focus (first | exact (hA1) | exact (hA2) | exact (hE3))); (conv => whnf); (try simp only [Int.toNat_natCast, Nat.zero_add, List.drop_zero, htk])))
  exact Fin.of (by simp)
end Go.Proofs.Ytfhmfpneiagakaa
