/- What some functions of the program answer at values that mean given lists and numbers, each proved of the program's own code. Conditions: those that each theorem names. -/
import Derived.Test.YtfhmfpneiagakaaP4
import Derived.Test.YtfhmfpneiagakaaT19
import Derived.Test.YtfhmfpneiagakaaV9
set_option linter.unusedSimpArgs false
set_option linter.unusedVariables false
set_option maxHeartbeats 8000000
set_option maxRecDepth 100000
namespace Go.Proofs.Ytfhmfpneiagakaa
open Go Go.V Go.Gr
def modL (os : List Int) (n : Nat) : List Int := if os = [] then [0] else os.map fun o => o % (n : Int)
theorem modL_in {os : List Int} {n : Nat} (hn : 0 < n) (h : os.length ≤ 4) : pkIn n (modL os n) = true := by
  unfold modL
  split
  · exact pkIn_iff.2 ⟨by simp, fun o ho => by simp at ho; omega⟩
  · rename_i hne
    have hl := List.length_pos_iff.2 hne
    refine pkIn_iff.2 ⟨by simp; omega, fun o ho => ?_⟩
    obtain ⟨x, _, rfl⟩ := List.mem_map.1 ho
    have h1 := Int.emod_nonneg x (by omega : (n : Int) ≠ 0)
    have h2 := Int.emod_lt_of_pos x (by omega : (0 : Int) < n)
    omega
theorem mod_take {oz : List Int} {w k : Nat} {x : Int} (hx : oz[k]? = some x) : (oz.take k).map (fun o => o % (w : Int)) ++ [x % (w : Int)] = (oz.take (k + 1)).map (fun o => o % (w : Int)) ∧ ((oz.take k).map fun o => o % (w : Int)).length + 1 = ((oz.take (k + 1)).map fun o => o % (w : Int)).length := by
  have h : (oz.take k).map (fun o => o % (w : Int)) ++ [x % (w : Int)] = (oz.take (k + 1)).map (fun o => o % (w : Int)) := by
    rw [List.take_add_one, hx]; simp
  exact ⟨h, by rw [← h]; simp⟩
theorem both_take {F S : List Int} {k : Nat} {x : Int} (hx : S[k]? = some x) : pkBoth F (S.take k) ++ [F.getD x.toNat 0] = pkBoth F (S.take (k + 1)) ∧ (pkBoth F (S.take k)).length + 1 = (pkBoth F (S.take (k + 1))).length := by
  have h : pkBoth F (S.take k) ++ [F.getD x.toNat 0] = pkBoth F (S.take (k + 1)) := by
    unfold pkBoth
    rw [List.take_add_one, hx]; simp
  exact ⟨h, by rw [← h]; simp⟩
theorem all_step (k : Nat) : allO k ++ [(k : Int)] = allO (k + 1) ∧ (allO k).length + 1 = (allO (k + 1)).length := by
  unfold allO
  rw [List.range_succ]
  simp
theorem picks_c (ds : List Int) (o : Int) (vals : List Int) (sm : Bool) (os ag : List Int) (n : Int) (hd : ∀ v ∈ ds, 0 ≤ v ∧ v ≤ 255) (hdl : ds.length ≤ 281474976710656) (ho : 0 ≤ o ∧ o ≤ 255) (hv : ∀ v ∈ vals, 0 ≤ v ∧ v ≤ 65535) (hvl : vals.length ≤ 281474976710656)
    (hos : ∀ v ∈ os, 0 ≤ v ∧ v ≤ 255) (hosl : os.length ≤ 281474976710656) (hag : ∀ v ∈ ag, 0 ≤ v ∧ v ≤ 255) (hagl : ag.length ≤ 281474976710656) (hn : 0 ≤ n ∧ n ≤ 65535) :
    Called Try.prog 9 [draftD ds o vals sm, .ints .u8 os, .ints .u8 ag, .int .u16 n] (.bool true) := by
  have hbb := nsD_bd ds
  have hwb := wD_bd o
  have hdr := draft_c ds o vals sm hd hdl ho hv hvl
  have hg := draft_ok ds o vals sm hv
  generalize nsD ds = ns at *
  generalize wD o = w at *
  generalize dData ds o vals sm = data at *
  have hG := okGrid_iff hg
  have hp : ∀ n ∈ ns, 2 ≤ n ∧ n ≤ 9 := fun n hn => by have := hbb.2 n hn; omega
  have hpos : ∀ n ∈ ns, 0 < n := fun n hn => by have := hbb.2 n hn; omega
  have hns : (nz ns).length = ns.length := by simp [nz]
  have hPR0 := PR_pos hpos
  have hPR : PR ns ≤ 64 := PR_64 (by omega) hbb.2
  have hdl : data.length = PR ns * w := by
    have := hG.2.2.2.2.2.2.1
    rw [prod_nz, ← Int.natCast_mul] at this
    omega
  have hqq : (data.length : Int) / (w : Int) = (PR ns : Nat) := by
    rw [hdl, Int.natCast_mul]
    exact Int.mul_ediv_cancel _ (by omega)
  obtain ⟨m, hm, hm2⟩ : ∃ m : Nat, n % ((PR ns : Nat) : Int) = m ∧ m < PR ns := ⟨(n % ((PR ns : Nat) : Int)).toNat, by have := Int.emod_nonneg n (by omega : ((PR ns : Nat) : Int) ≠ 0); omega, by have := Int.emod_lt_of_pos n (by omega : (0 : Int) < (PR ns : Nat)); omega⟩
  refine called_of_run tbOk 6 ⟨Try.func9, rfl, rfl, Nat.le_of_ble_eq_true rfl⟩ ?_
  (conv => whnf)
  refine V.st ?_
  repeat ((try ((with_reducible refine .ext ?_); (conv => whnf))); (with_reducible refine call_intro (r := ?_) ?_ ?_); rotate_left; (focus (first | exact (wakes_c) | exact (hdr))); (conv => whnf); refine V.st ?_)
  have hol : (List.take (min (os.length : Int) 4).toNat os).length ≤ 4 := by simp; omega
  have hob : ∀ v ∈ List.take (min (os.length : Int) 4).toNat os, 0 ≤ v ∧ v ≤ 255 := fun v hv => hos v (List.mem_of_mem_take hv)
  have hal : (List.take (min (ag.length : Int) 4).toNat ag).length ≤ 4 := by simp; omega
  have hab : ∀ v ∈ List.take (min (ag.length : Int) 4).toNat ag, 0 ≤ v ∧ v ≤ 255 := fun v hv => hag v (List.mem_of_mem_take hv)
  generalize List.take (min (os.length : Int) 4).toNat os = oz at *
  generalize hag2 : List.take (min (ag.length : Int) 4).toNat ag = az at *
  have hF := modL_in (n := w) (by omega) hol
  have hFl := (pkIn_iff.1 hF).1
  have hS := modL_in (n := (modL oz w).length) (by omega) hal
  have hSl := (pkIn_iff.1 hS).1
  have hF0 : oz = [] → [0] = modL oz w := fun e => by rw [e]; rfl
  have hF1 : oz ≠ [] → oz.map (fun o => o % (w : Int)) = modL oz w := fun e => by unfold modL; rw [if_neg e]
  generalize modL oz w = F at *
  have hS0 : az = [] → [0] = modL az F.length := fun e => by rw [e]; rfl
  have hS1 : az ≠ [] → az.map (fun o => o % (F.length : Int)) = modL az F.length := fun e => by unfold modL; rw [if_neg e]
  generalize modL az F.length = S at *
  have hB := pkBoth_in hF hS
  have hBl : (pkBoth F S).length = S.length := by simp [pkBoth]
  have hA := allO_in (w := w) (by omega) (by omega)
  have hAl : (allO w).length = w := by simp [allO]
  have h64 : ∀ a : Nat, a ≤ 4 → PR ns * a ≤ 256 := fun a ha => Nat.mul_le_mul hPR ha
  have hc : ∀ (o : Nat) (d xs : List Int), okGrid (nz ns) o d = true → pkIn o xs = true → d.length ≤ 100000 → Called Try.prog 21 [gridD (nz ns) o d, .ints .i64 xs] (.tup [gridD (nz ns) (xs.length : Nat) (pkData (nz ns) o d xs), .int .i64 0]) := fun o d xs h1 h2 h3 => by
    have hxl := (pkIn_iff.1 h2).1
    have hE : pkErr (nz ns) o d xs = 0 := by
      have h5 := h64 xs.length hxl.2
      unfold pkErr
      rw [h1, h2, prod_nz, ← Int.natCast_mul]
      simp only [if_true]
      rw [if_neg (by omega)]
    refine Called.cast (pick_c (nz ns) o d xs (by omega) (by omega) (by omega)) ?_
    unfold pkR
    rw [hE]
    simp
  have hokP := pk_ok hg hF (Nat.le_trans (h64 _ hFl.2) (by omega))
  have hlP := pk_len (ns := ns) (w := w) (data := data) (outs := F)
  have hlP2 := h64 F.length hFl.2
  have cA := Called.cast (hc w data (allO w) hg hA (by omega)) (by rw [hAl, pk_all hdl])
  have cF := hc w data F hg hF (by omega)
  have cS := Called.cast (hc F.length (pkData (nz ns) w data F) S hokP hS (by omega)) (by rw [pk_pk hF hS])
  have cB := Called.cast (hc w data (pkBoth F S) hg hB (by omega)) (by rw [hBl])
  have hlQ := pk_len (ns := ns) (w := w) (data := data) (outs := pkBoth F S)
  have hlQ2 := h64 S.length hSl.2
  have cG : Called Try.prog 31 [gridD (nz ns) w data, gridD (nz ns) w data] (.bool true) := Called.cast (same_c _ _ _ _ _ _ (by omega) (by omega) (by omega) (by omega)) (by simp)
  have cQ : Called Try.prog 31 [gridD (nz ns) (S.length : Nat) (pkData (nz ns) w data (pkBoth F S)), gridD (nz ns) (S.length : Nat) (pkData (nz ns) w data (pkBoth F S))] (.bool true) := Called.cast (same_c _ _ _ _ _ _ (by omega) (by rw [hlQ, hBl]; omega) (by omega) (by rw [hlQ, hBl]; omega)) (by simp)
  have cI := index_c ns m (fun n hn => by have := hp n hn; omega) (by omega) (by omega)
  have cX := (place_at hg hpos hm2 (by omega) (by omega) (by omega)).2
  have cY := Called.cast (place_at hokP hpos hm2 (by omega) (by omega) (by omega)).2 (by rw [pk_slot hm2])
  have cR : Called Try.prog 27 [gridD (nz ns) w data] (.tup [.ints .i64 (rl (fun a b => decide (a < b)) data w data.length), .ints .i64 (rl (fun a b => decide (a > b)) data w data.length), .int .i64 0]) :=
    Called.cast (range_c (nz ns) w data (by omega) (by omega)) (by rw [hg, Int.toNat_natCast]; rfl)
  have cT : Called Try.prog 27 [gridD (nz ns) (F.length : Nat) (pkData (nz ns) w data F)] (.tup [.ints .i64 (rl (fun a b => decide (a < b)) (pkData (nz ns) w data F) F.length (pkData (nz ns) w data F).length), .ints .i64 (rl (fun a b => decide (a > b)) (pkData (nz ns) w data F) F.length (pkData (nz ns) w data F).length), .int .i64 0]) :=
    Called.cast (range_c (nz ns) (F.length : Nat) (pkData (nz ns) w data F) (by omega) (by omega)) (by rw [hokP, Int.toNat_natCast]; rfl)
  have eX := slot_m hdl hm2
  have eY : (pkF w data F m).length = F.length := pkF_length
  have eR1 := rl_length (lt := fun a b => decide (a < b)) (by rw [hdl]; exact Nat.le_mul_of_pos_left _ hPR0 : w ≤ data.length) data.length
  have eR2 := rl_length (lt := fun a b => decide (a > b)) (by rw [hdl]; exact Nat.le_mul_of_pos_left _ hPR0 : w ≤ data.length) data.length
  have eR3 := rl_length (lt := fun a b => decide (a < b)) (by rw [hlP]; exact Nat.le_mul_of_pos_left _ hPR0 : F.length ≤ (pkData (nz ns) w data F).length) (pkData (nz ns) w data F).length
  have eR4 := rl_length (lt := fun a b => decide (a > b)) (by rw [hlP]; exact Nat.le_mul_of_pos_left _ hPR0 : F.length ≤ (pkData (nz ns) w data F).length) (pkData (nz ns) w data F).length
  refine Lp.ghostSlot 63 10 .i64 (by decide) ?_
  (conv => whnf)
  refine lp_any (0) (fun k => k ≤ oz.length) (fun k => oz.length - k) (fun k => [(52, .int .i64 k), (10, .osl 63 0 ((oz.take k).map fun o => o % (w : Int)).length)]) (fun k => [(63, .arr .i64 ((oz.take k).map fun o => o % (w : Int)))]) ?_ ?_ ?_
  · exact V.wk
  · omega
  intro k hk
  (conv => whnf)
  refine V.st ?_
  refine Cnd.split (CondB.mk (fun hq => ?_) (fun hq => ?_))
  · rw [decide_eq_true_eq] at hq
    obtain ⟨x, hx, ex⟩ := getxn (xs := oz) (k := k) (by omega)
    have hxb := hob x (List.mem_of_getElem? hx)
    have hmt := mod_take (w := w) hx
    have hml : ((oz.take k).map fun o => o % (w : Int)).length ≤ 4 := by simp; omega
    (conv => whnf)
    (try simp only [Int.toNat_natCast, ex])
    repeat (first | (refine V.s1 ?_; (try simp only [Int.toNat_natCast, ex])) | ((with_reducible refine recheck_and ?_ ?_); (focus ((conv => whnf); (try simp only [Int.toNat_natCast, ex]); (repeat (refine V.s1 ?_; (try simp only [Int.toNat_natCast, ex]))); exact ⟨rfl⟩)); (conv => whnf); (try simp only [Int.toNat_natCast, ex])))
    try refine And.intro (fun _ => ⟨trivial, by simp; omega⟩) ?_
    (conv => whnf)
    (try simp only [Nat.zero_add, List.drop_zero, List.take_succ_cons, List.take_zero, List.length_cons, List.length_nil, hmt.1, hmt.2])
    repeat (first | (refine V.s1 ?_; (try simp only [Nat.zero_add, List.drop_zero, List.take_succ_cons, List.take_zero, List.length_cons, List.length_nil, hmt.1, hmt.2])) | ((with_reducible refine recheck_and ?_ ?_); (focus ((conv => whnf); (try simp only [Nat.zero_add, List.drop_zero, List.take_succ_cons, List.take_zero, List.length_cons, List.length_nil, hmt.1, hmt.2]); (repeat (refine V.s1 ?_; (try simp only [Nat.zero_add, List.drop_zero, List.take_succ_cons, List.take_zero, List.length_cons, List.length_nil, hmt.1, hmt.2]))); exact ⟨rfl⟩)); (conv => whnf); (try simp only [Nat.zero_add, List.drop_zero, List.take_succ_cons, List.take_zero, List.length_cons, List.length_nil, hmt.1, hmt.2])))
    exact ⟨k + 1, by omega, by omega, V.wk⟩
  · rw [decide_eq_false_iff_not] at hq
    rw [List.take_of_length_le (by omega)]
    (conv => whnf)
    refine V.st ?_
    refine cnd_meet [(10, .ints .i64 F), (62, .any), (63, .any), (65, .any), (66, .any), (67, .any), (68, .any)] [(63, .gone)] (CondB.mk (fun hz => ?_) (fun hz => ?_)) ?_
    · have hoz : oz = [] := List.length_eq_zero_iff.1 (by simpa using hz)
      have hF2 : List.take 1 [0] = F := hF0 hoz
      (conv => whnf)
      refine V.st ?_
      refine Wk.pub 63 ?_
      (conv => whnf)
      refine Wk.pub 68 ?_
      (conv => whnf)
      rw [hF2]
      exact V.wk
    · have hoz : oz ≠ [] := fun e => by rw [e] at hz; simp at hz
      (conv => whnf)
      refine V.st ?_
      refine Wk.pub 63 ?_
      (conv => whnf)
      rw [List.take_length, hF1 hoz]
      exact V.wk
    (conv => whnf)
    refine V.st ?_
    rw [hag2]
    refine Lp.ghostSlot 86 11 .i64 (by decide) ?_
    (conv => whnf)
    refine lp_any (0) (fun k => k ≤ az.length) (fun k => az.length - k) (fun k => [(75, .int .i64 k), (11, .osl 86 0 ((az.take k).map fun o => o % (F.length : Int)).length)]) (fun k => [(86, .arr .i64 ((az.take k).map fun o => o % (F.length : Int)))]) ?_ ?_ ?_
    · exact V.wk
    · omega
    intro k hk
    (conv => whnf)
    refine V.st ?_
    refine Cnd.split (CondB.mk (fun hq => ?_) (fun hq => ?_))
    · rw [decide_eq_true_eq] at hq
      obtain ⟨x, hx, ex⟩ := getxn (xs := az) (k := k) (by omega)
      have hxb := hab x (List.mem_of_getElem? hx)
      have hmt := mod_take (w := F.length) hx
      have hml : ((az.take k).map fun o => o % (F.length : Int)).length ≤ 4 := by simp; omega
      (conv => whnf)
      (try simp only [Int.toNat_natCast, ex])
      repeat (first | (refine V.s1 ?_; (try simp only [Int.toNat_natCast, ex])) | ((with_reducible refine recheck_and ?_ ?_); (focus ((conv => whnf); (try simp only [Int.toNat_natCast, ex]); (repeat (refine V.s1 ?_; (try simp only [Int.toNat_natCast, ex]))); exact ⟨rfl⟩)); (conv => whnf); (try simp only [Int.toNat_natCast, ex])))
      try refine And.intro (fun _ => ⟨trivial, by simp; omega⟩) ?_
      (conv => whnf)
      (try simp only [Nat.zero_add, List.drop_zero, List.take_succ_cons, List.take_zero, List.length_cons, List.length_nil, hmt.1, hmt.2])
      repeat (first | (refine V.s1 ?_; (try simp only [Nat.zero_add, List.drop_zero, List.take_succ_cons, List.take_zero, List.length_cons, List.length_nil, hmt.1, hmt.2])) | ((with_reducible refine recheck_and ?_ ?_); (focus ((conv => whnf); (try simp only [Nat.zero_add, List.drop_zero, List.take_succ_cons, List.take_zero, List.length_cons, List.length_nil, hmt.1, hmt.2]); (repeat (refine V.s1 ?_; (try simp only [Nat.zero_add, List.drop_zero, List.take_succ_cons, List.take_zero, List.length_cons, List.length_nil, hmt.1, hmt.2]))); exact ⟨rfl⟩)); (conv => whnf); (try simp only [Nat.zero_add, List.drop_zero, List.take_succ_cons, List.take_zero, List.length_cons, List.length_nil, hmt.1, hmt.2])))
      exact ⟨k + 1, by omega, by omega, V.wk⟩
    · rw [decide_eq_false_iff_not] at hq
      rw [List.take_of_length_le (by omega)]
      (conv => whnf)
      refine V.st ?_
      refine cnd_meet [(11, .ints .i64 S), (85, .any), (86, .any), (88, .any), (89, .any), (90, .any), (91, .any)] [(86, .gone)] (CondB.mk (fun hz => ?_) (fun hz => ?_)) ?_
      · have haz : az = [] := List.length_eq_zero_iff.1 (by simpa using hz)
        have hS2 : List.take 1 [0] = S := hS0 haz
        (conv => whnf)
        refine V.st ?_
        refine Wk.pub 86 ?_
        (conv => whnf)
        refine Wk.pub 91 ?_
        (conv => whnf)
        rw [hS2]
        exact V.wk
      · have haz : az ≠ [] := fun e => by rw [e] at hz; simp at hz
        (conv => whnf)
        refine V.st ?_
        refine Wk.pub 86 ?_
        (conv => whnf)
        rw [List.take_length, hS1 haz]
        exact V.wk
      (conv => whnf)
      refine V.st ?_
      refine Lp.ghostSlot 104 12 .i64 (by decide) ?_
      (conv => whnf)
      refine lp_any (0) (fun k => k ≤ S.length) (fun k => S.length - k) (fun k => [(94, .int .i64 k), (12, .osl 104 0 (pkBoth F (S.take k)).length)]) (fun k => [(104, .arr .i64 (pkBoth F (S.take k)))]) ?_ ?_ ?_
      · exact V.wk
      · omega
      intro k hk
      (conv => whnf)
      refine V.st ?_
      refine Cnd.split (CondB.mk (fun hq => ?_) (fun hq => ?_))
      · rw [decide_eq_true_eq] at hq
        obtain ⟨x, hx, ex⟩ := getxn (xs := S) (k := k) (by omega)
        have hxb := (pkIn_iff.1 hS).2 x (List.mem_of_getElem? hx)
        have hmt := both_take (F := F) hx
        have hml : (pkBoth F (S.take k)).length ≤ 4 := by simp [pkBoth]; omega
        (conv => whnf)
        (try simp only [Int.toNat_natCast, ex])
        repeat (first | (refine V.s1 ?_; (try simp only [Int.toNat_natCast, ex])) | ((with_reducible refine recheck_and ?_ ?_); (focus ((conv => whnf); (try simp only [Int.toNat_natCast, ex]); (repeat (refine V.s1 ?_; (try simp only [Int.toNat_natCast, ex]))); exact ⟨rfl⟩)); (conv => whnf); (try simp only [Int.toNat_natCast, ex])))
        try refine And.intro (fun _ => ⟨trivial, by simp; omega⟩) ?_
        (conv => whnf)
        (try simp only [Nat.zero_add, List.drop_zero, List.take_succ_cons, List.take_zero, List.length_cons, List.length_nil, hmt.1, hmt.2])
        repeat (first | (refine V.s1 ?_; (try simp only [Nat.zero_add, List.drop_zero, List.take_succ_cons, List.take_zero, List.length_cons, List.length_nil, hmt.1, hmt.2])) | ((with_reducible refine recheck_and ?_ ?_); (focus ((conv => whnf); (try simp only [Nat.zero_add, List.drop_zero, List.take_succ_cons, List.take_zero, List.length_cons, List.length_nil, hmt.1, hmt.2]); (repeat (refine V.s1 ?_; (try simp only [Nat.zero_add, List.drop_zero, List.take_succ_cons, List.take_zero, List.length_cons, List.length_nil, hmt.1, hmt.2]))); exact ⟨rfl⟩)); (conv => whnf); (try simp only [Nat.zero_add, List.drop_zero, List.take_succ_cons, List.take_zero, List.length_cons, List.length_nil, hmt.1, hmt.2])))
        exact ⟨k + 1, by omega, by omega, V.wk⟩
      · rw [decide_eq_false_iff_not] at hq
        rw [List.take_of_length_le (l := S) (by omega)]
        (conv => whnf)
        refine V.st ?_
        refine Lp.ghostSlot 114 13 .i64 (by decide) ?_
        (conv => whnf)
        refine lp_any (0) (fun k => k ≤ w) (fun k => w - k) (fun k => [(108, .int .i64 k), (13, .osl 114 0 (allO k).length)]) (fun k => [(114, .arr .i64 (allO k))]) ?_ ?_ ?_
        · exact V.wk
        · omega
        intro k hk
        (conv => whnf)
        refine V.st ?_
        refine Cnd.split (CondB.mk (fun hq => ?_) (fun hq => ?_))
        · rw [decide_eq_true_eq] at hq
          have hmt := all_step k
          have hml : (allO k).length ≤ 4 := by simp [allO]; omega
          (conv => whnf)
          (try simp only [Int.toNat_natCast])
          repeat (first | (refine V.s1 ?_; (try simp only [Int.toNat_natCast])) | ((with_reducible refine recheck_and ?_ ?_); (focus ((conv => whnf); (try simp only [Int.toNat_natCast]); (repeat (refine V.s1 ?_; (try simp only [Int.toNat_natCast]))); exact ⟨rfl⟩)); (conv => whnf); (try simp only [Int.toNat_natCast])))
          try refine And.intro (fun _ => ⟨trivial, by simp; omega⟩) ?_
          (conv => whnf)
          (try simp only [Nat.zero_add, List.drop_zero, List.take_succ_cons, List.take_zero, List.length_cons, List.length_nil, hmt.1, hmt.2])
          repeat (first | (refine V.s1 ?_; (try simp only [Nat.zero_add, List.drop_zero, List.take_succ_cons, List.take_zero, List.length_cons, List.length_nil, hmt.1, hmt.2])) | ((with_reducible refine recheck_and ?_ ?_); (focus ((conv => whnf); (try simp only [Nat.zero_add, List.drop_zero, List.take_succ_cons, List.take_zero, List.length_cons, List.length_nil, hmt.1, hmt.2]); (repeat (refine V.s1 ?_; (try simp only [Nat.zero_add, List.drop_zero, List.take_succ_cons, List.take_zero, List.length_cons, List.length_nil, hmt.1, hmt.2]))); exact ⟨rfl⟩)); (conv => whnf); (try simp only [Nat.zero_add, List.drop_zero, List.take_succ_cons, List.take_zero, List.length_cons, List.length_nil, hmt.1, hmt.2])))
          exact ⟨k + 1, by omega, by omega, V.wk⟩
        · rw [decide_eq_false_iff_not] at hq
          have hkw : k = w := by omega
          rw [hkw]
          (conv => whnf)
          (try simp only [List.take_length, List.drop_zero])
          repeat (first | (refine V.s1 ?_; (try simp only [List.take_length, List.drop_zero])) | ((with_reducible refine recheck_and ?_ ?_); (focus ((conv => whnf); (try simp only [List.take_length, List.drop_zero]); (repeat (refine V.s1 ?_; (try simp only [List.take_length, List.drop_zero]))); exact ⟨rfl⟩)); (conv => whnf); (try simp only [List.take_length, List.drop_zero])) | ((try ((with_reducible refine .ext ?_); (conv => whnf); (try simp only [List.take_length, List.drop_zero]))); (with_reducible refine call_intro (r := ?_) ?_ ?_); rotate_left; (focus (first | exact (cA) | exact (cF) | exact (cS) | exact (cB) | exact (cG) | exact (cQ) | exact (cI) | exact (cX) | exact (cY) | exact (cR) | exact (cT))); (conv => whnf); (try simp only [List.take_length, List.drop_zero])))
          refine Cnd.split (CondB.mk (fun hb => ?_) (fun hb => ?_))
          · simp at hb
          (conv => whnf)
          refine V.st ?_
          refine ⟨(.take 0 (.take 1 (.take 2 (.take 3 (.take 4 (.take 5 (.take 6 (.take 7 (.take 8 (.take 9 (.take 10 (.ev (.cons 11 [] (.take 12 (.done)) (.nil)))))))))))))), ⟨by kernel_rfl, by kernel_rfl, by kernel_rfl⟩, .go ?_⟩
          (conv => whnf)
          (try simp only [hqq, hm])
          repeat (first | (refine V.s1 ?_; (try simp only [hqq, hm])) | ((with_reducible refine recheck_and ?_ ?_); (focus ((conv => whnf); (try simp only [hqq, hm]); (repeat (refine V.s1 ?_; (try simp only [hqq, hm]))); exact ⟨rfl⟩)); (conv => whnf); (try simp only [hqq, hm])) | ((try ((with_reducible refine .ext ?_); (conv => whnf); (try simp only [hqq, hm]))); (with_reducible refine call_intro (r := ?_) ?_ ?_); rotate_left; (focus (first | exact (cI) | exact (cX) | exact (cY) | exact (cR) | exact (cT))); (conv => whnf); (try simp only [hqq, hm])))
          refine Cnd.split (CondB.mk (fun hb2 => ?_) (fun hb2 => ?_))
          · simp only [eX, eY, eR1, eR2, eR3, eR4] at hb2
            simp at hb2
          (conv => whnf)
          refine V.st ?_
          refine lp_go (F.length) (fun k => True) (fun k => [(267, .int .i64 k)]) (fun k => []) V.wk ?_ ?_
          · trivial
          intro k hk _
          (conv => whnf)
          refine V.st ?_
          refine Cnd.split (CondB.mk (fun hb3 => ?_) (fun hb3 => ?_))
          · rw [decide_eq_true_eq] at hb3
            obtain ⟨c, hc1, ec⟩ := getxn (xs := F) (k := k) (by omega)
            have hcb := (pkIn_iff.1 hF).2 c (List.mem_of_getElem? hc1)
            have f1 := pkF_get (data := data) (m := m) hc1 hcb
            have f2 := pk_range ord_lt hdl hPR0 hc1 hcb
            have f3 := pk_range ord_gt hdl hPR0 hc1 hcb
            have f4 := pk_best (m := m) (c := c.toNat) ord_lt hdl hm2 (by omega)
            have f5 := pk_best (m := m) (c := c.toNat) ord_gt hdl hm2 (by omega)
            (conv => whnf)
            (try simp only [Int.toNat_natCast, ec])
            repeat (first | (refine V.s1 ?_; (try simp only [Int.toNat_natCast, ec])) | ((with_reducible refine recheck_and ?_ ?_); (focus ((conv => whnf); (try simp only [Int.toNat_natCast, ec]); (repeat (refine V.s1 ?_; (try simp only [Int.toNat_natCast, ec]))); exact ⟨rfl⟩)); (conv => whnf); (try simp only [Int.toNat_natCast, ec])))
            refine ⟨(.take 0 (.take 1 (.take 2 (.take 3 (.take 4 (.take 5 (.take 6 (.take 7 (.take 8 (.take 9 (.take 10 (.take 11 (.take 12 (.take 13 (.take 14 (.take 15 (.take 16 (.take 17 (.take 18 (.take 19 (.take 20 (.take 21 (.take 22 (.take 23 (.take 24 (.take 25 (.take 26 (.take 27 (.take 28 (.take 29 (.take 30 (.take 31 (.take 32 (.take 33 (.take 34 (.take 35 (.take 36 (.take 37 (.take 38 (.take 39 (.take 40 (.take 41 (.take 42 (.take 43 (.take 44 (.take 45 (.take 46 (.take 47 (.take 48 (.take 49 (.take 50 (.take 51 (.take 52 (.done)))))))))))))))))))))))))))))))))))))))))))))))))))))), ⟨by kernel_rfl, by kernel_rfl, by kernel_rfl⟩, .go ?_⟩
            (conv => whnf)
            (try simp only [Int.toNat_natCast, ec, f1, f2, f3])
            repeat (first | (refine V.s1 ?_; (try simp only [Int.toNat_natCast, ec, f1, f2, f3])) | ((with_reducible refine recheck_and ?_ ?_); (focus ((conv => whnf); (try simp only [Int.toNat_natCast, ec, f1, f2, f3]); (repeat (refine V.s1 ?_; (try simp only [Int.toNat_natCast, ec, f1, f2, f3]))); exact ⟨rfl⟩)); (conv => whnf); (try simp only [Int.toNat_natCast, ec, f1, f2, f3])))
            refine Cnd.split (CondB.mk (fun hb4 => ?_) (fun hb4 => ?_))
            · simp at hb4 f4 f5
              omega
            (conv => whnf)
            refine V.st ?_
            exact ⟨k + 1, ⟨by omega, trivial⟩, by omega, V.wk⟩
          · rw [decide_eq_false_iff_not] at hb3
            (conv => whnf)
            refine V.st ?_
            exact Fin.of rfl
end Go.Proofs.Ytfhmfpneiagakaa
