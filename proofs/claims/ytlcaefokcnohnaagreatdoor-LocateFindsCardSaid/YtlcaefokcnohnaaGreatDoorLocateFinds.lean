/- The law LocateFinds: its Go function returns true for every argument. No condition beside the card's own: the listed variables of the library and of the program lie as the program's text lays them. -/
import Derived.Test.YtlcaefokcnohnaaGreatDoorRows
import Derived.Test.YtlcaefokcnohnaaGreatDoorCards
import Derived.Test.YtlcaefokcnohnaaGreatDoorTie
import Derived.Test.YtlcaefokcnohnaaGreatDoorH1
import Derived.Test.YtlcaefokcnohnaaGreatDoorH8
import Derived.WalkKit
import Derived.ProofKit
import Derived.OpenShut
import Derived.Below
import Derived.Carry
import Derived.SizedLaws
import Derived.LaidMore
import Derived.SevenTiedAt
import Derived.Lib.LaidTab
import Derived.Stop.LaidErr
import Derived.Stop.Joined
namespace Go.Proofs.YtlcaefokcnohnaaGreatDoor.locateFinds
open Go Go.V Go.ChangeShapes Go.WideShapes Go.ChangeAt Go.RowKit
set_option linter.unusedVariables false
theorem own : ownKnob Tryz.prog.godebug = none := by kernel_rfl
theorem laidOut : laidOutB Tryz.prog = true := by kernel_rfl
def laidL : List (String × DataW Unit) := [("math/bits.deBruijn32tab", Rows.laid_math_bits_deBruijn32tab), ("math/bits.deBruijn64tab", Rows.laid_math_bits_deBruijn64tab), ("internal/strconv.uint64pow10", Rows.laid_internal_strconv_uint64pow10), ("verdigris/locate.orders", Rows.laid_verdigris_locate_orders)]
/-- The door's own heap meets the condition. -/
theorem door_met (os : Os) (args : Array Value) : laidMetH Tryz.prog laidL ((World.doorLaid Tryz.prog 35 os).forCall (fun _ _ => 0) ⟨#[], args, []⟩).memory :=
  laidMetH_of_parts3 (fuel := 8) (laidMet_of_run' 8 (by kernel_rfl) (by kernel_rfl)) (by kernel_rfl) (by kernel_rfl)
theorem of_laid {W : World} (h : laidMetH Tryz.prog laidL W) : GlW W := by
  rw [MakeChecks.laidMetH_plain _ _ _ (by kernel_rfl)] at h
  exact glW_of_tab (Lib.tabIs_of_head (g := 1) (t := 179) (by kernel_rfl) (by kernel_rfl) Tryz.underlying179 Tryz.underlying143 (by kernel_rfl) (by kernel_rfl) h.tail.tail) (rows_of_head (rows := [[0, 1, 2], [0, 2, 1], [1, 0, 2], [1, 2, 0], [2, 0, 1], [2, 1, 0]]) (g := 0) (t := 68) (e := 52) (n := 6) (m := 3) (by kernel_rfl) (by kernel_rfl) Tryz.underlying68 Tryz.underlying52 Tryz.underlying3 (by kernel_rfl) (by kernel_rfl) (by kernel_rfl) h.tail.tail.tail)
theorem walk (cs0 : Array Value) (cs1 : Array Value) (cs2 : Array Value) (cs3 : Array Value) (cs4 : Array Value) (v5 : Value) (w : World) (hg : GlW w) (l0 : leavesOk w cubeLf cs0.toList) (l1 : leavesOk w gdraftL cs1.toList) (l2 : leavesOk w u8x4L cs2.toList) (l3 : leavesOk w i16x3L cs3.toList) (l4 : leavesOk w u16x3L cs4.toList) (l5 : leavesOk w listL [v5]) : Calls Tryz.prog 3 #[.agg cs0, .agg cs1, .agg cs2, .agg cs3, .agg cs4, v5] w fun e w' => e = .returned (.bool true) ∧ Below w.heap.size w w' := by
  obtain ⟨a, b, c, m, off, hm9, hd0, ⟨ba, bb, bc⟩, hmr, hofr, hol⟩ := cube_den l0
  obtain ⟨ds, o, vals, sm, hd1, hds, hdl, ho, hv, hvl⟩ := gdraft_den l1
  obtain ⟨x4, h4l, hd2, h4r⟩ := iarr_den (k := .u8) (n := 4) l2
  obtain ⟨x3, h3l, hd3, h3r⟩ := iarr_den (k := .i16) (n := 3) l3
  obtain ⟨y3, h3l', hd4, h3r'⟩ := iarr_den (k := .u16) (n := 3) l4
  obtain ⟨raw, hd5, hraw⟩ := list_den l5
  obtain ⟨m0, m1, m2, m3, m4, m5, m6, m7, m8, rfl⟩ : ∃ m0 m1 m2 m3 m4 m5 m6 m7 m8, m = [m0, m1, m2, m3, m4, m5, m6, m7, m8] := by
    match m, hm9 with
    | [m0, m1, m2, m3, m4, m5, m6, m7, m8], _ => exact ⟨m0, m1, m2, m3, m4, m5, m6, m7, m8, rfl⟩
  obtain ⟨a0, a1, a2, a3, rfl⟩ : ∃ a0 a1 a2 a3, x4 = [a0, a1, a2, a3] := by
    match x4, h4l with
    | [a0, a1, a2, a3], _ => exact ⟨a0, a1, a2, a3, rfl⟩
  obtain ⟨o0, o1, o2, rfl⟩ : ∃ o0 o1 o2, x3 = [o0, o1, o2] := by
    match x3, h3l with
    | [o0, o1, o2], _ => exact ⟨o0, o1, o2, rfl⟩
  obtain ⟨t0, t1, t2, rfl⟩ : ∃ t0 t1 t2, y3 = [t0, t1, t2] := by
    match y3, h3l' with
    | [t0, t1, t2], _ => exact ⟨t0, t1, t2, rfl⟩
  have u8 : ∀ {x : Int}, V.InR .u8 x → 0 ≤ x ∧ x ≤ 255 := fun h => by simpa [V.InR, V.lo, V.hi] using h
  have i16 : ∀ {x : Int}, V.InR .i16 x → -32768 ≤ x ∧ x ≤ 32767 := fun h => by simpa [V.InR, V.lo, V.hi] using h
  have u16 : ∀ {x : Int}, V.InR .u16 x → 0 ≤ x ∧ x ≤ 65535 := fun h => by simpa [V.InR, V.lo, V.hi] using h
  exact (finds_c a b c m0 m1 m2 m3 m4 m5 m6 m7 m8 off ba bb bc hmr hofr hol ds o vals sm hds hdl ho hv hvl a0 a1 a2 a3 o0 o1 o2 t0 t1 t2 ⟨u8 (h4r a0 (by simp)), u8 (h4r a1 (by simp)), u8 (h4r a2 (by simp)), u8 (h4r a3 (by simp))⟩ ⟨i16 (h3r o0 (by simp)), i16 (h3r o1 (by simp)), i16 (h3r o2 (by simp))⟩ ⟨u16 (h3r' t0 (by simp)), u16 (h3r' t1 (by simp)), u16 (h3r' t2 (by simp))⟩ raw hraw).walk w (vs := [.agg cs0, .agg cs1, .agg cs2, .agg cs3, .agg cs4, v5]) ⟨_, _, rfl, hd0, _, _, rfl, hd1, _, _, rfl, hd2, _, _, rfl, hd3, _, _, rfl, hd4, _, _, rfl, hd5, rfl⟩ hg
set_option maxRecDepth 100000 in
theorem lifted (os : Os) (started : os.Started) (H : Type) (enc : TypeId × Value → H) :
    ReturnsInHanded {} Tryz.checked os 3 .any (fun w args => (Rows.locateFindsSpec.pre enc Tryz.prog Tryz.f3 [] false w args ∧ laidMetH Tryz.prog laidL w) ∧ sizedMet enc Tryz.prog Tryz.f3 (OpenSpec.ofChange Rows.locateFindsSpec) false w args)
      (Rows.locateFindsSpec.post enc Tryz.prog Tryz.f3 false true false false) := by
  refine returnsInHanded_of_change_and (C := Tryz.checked) (X := fun w _ => laidMetH Tryz.prog laidL w) (fun _ _ _ hh h => h.of_heap hh) own started (by kernel_rfl) Tryz.func3
    (ChangeSpec.witness_shaped (enc := enc) (C := Tryz.checked) (os := os) (X := fun w _ => laidMetH Tryz.prog laidL w) false (World.doorLaid Tryz.prog 35 os) #[.agg #[.int .u8 0, .int .u8 0, .int .u8 0, .int .u16 0, .int .u16 0, .int .u16 0, .int .u16 0, .int .u16 0, .int .u16 0, .int .u16 0, .int .u16 0, .int .u16 0, .slice none 0 0], .agg #[.slice none 0 0, .int .u8 0, .slice none 0 0, .bool false], .agg #[.int .u8 0, .int .u8 0, .int .u8 0, .int .u8 0], .agg #[.int .i16 0, .int .i16 0, .int .i16 0], .agg #[.int .u16 0, .int .u16 0, .int .u16 0], .slice none 0 0] 8 rfl (World.shaped_of_RefB (by kernel_rfl) (by kernel_rfl)) (by kernel_rfl) (by kernel_rfl) (by kernel_rfl) (door_met os _)) ?_
  intro W base args ds gs before hval0 hW hcnd hsz0 hL _
  have hval : ∀ (j : Nat) t v, Tryz.f3.params[j]? = some t → args[j]? = some v → Value.okWide Tryz.prog W .any base t v := hval0
  have hsz : (DataW.weightsEach Tryz.prog (Tryz.f3.params.toList ++ Rows.locateFindsSpec.plain.varTypes Tryz.prog) (ds ++ gs)).all (· ≤ reachBytes) = true := hsz0
  have hW' := hW
  obtain ⟨p, q, hA0, hV, rfl, hfz, hnd⟩ := hW
  have hA : DataW.TrodAll enc Tryz.prog W 0 (fun _ => true) true Tryz.f3.params.toList args.toList ds p := hA0
  rw [Tryz.params3] at hA hval hsz
  obtain ⟨v0, vs0, d0, ds0, p0, q0, hargs, rfl, rfl, h0, r0⟩ := trodAll_cons hA
  obtain ⟨v1, vs1, d1, ds1, p1, q1, rfl, rfl, rfl, h1, r1⟩ := trodAll_cons r0
  obtain ⟨v2, vs2, d2, ds2, p2, q2, rfl, rfl, rfl, h2, r2⟩ := trodAll_cons r1
  obtain ⟨v3, vs3, d3, ds3, p3, q3, rfl, rfl, rfl, h3, r3⟩ := trodAll_cons r2
  obtain ⟨v4, vs4, d4, ds4, p4, q4, rfl, rfl, rfl, h4, r4⟩ := trodAll_cons r3
  obtain ⟨v5, vs5, d5, ds5, p5, q5, rfl, rfl, rfl, h5, r5⟩ := trodAll_cons r4
  obtain ⟨rfl, rfl, rfl⟩ := trodAll_nil r5
  obtain rfl : args = #[v0, v1, v2, v3, v4, v5] := by cases args; simp_all
  obtain ⟨rfl, rfl⟩ := trodVars_none hV
  have hv0 := hval 0 28 v0 rfl rfl
  have z0 : (d0.weights Tryz.prog 28).all (· ≤ reachBytes) = true := List.all_eq_true.2 fun n hn => List.all_eq_true.1 hsz n (DataW.weights_mem_each (j := 0) rfl rfl n hn)
  have l0 := read_arg (ls := cubeLf) (f := 4) (by kernel_rfl) hv0 h0 z0
  obtain ⟨cs0, rfl, _⟩ := okWide_struct Tryz.underlying28 hv0
  have k0 := h0
  have lt0 : ∀ x ∈ p0, x.block < W.heap.size := by obtain ⟨m, hm⟩ := k0; exact DataW.trod_lt m _ _ _ hm
  have hv1 := hval 1 32 v1 rfl rfl
  have z1 : (d1.weights Tryz.prog 32).all (· ≤ reachBytes) = true := List.all_eq_true.2 fun n hn => List.all_eq_true.1 hsz n (DataW.weights_mem_each (j := 1) rfl rfl n hn)
  have l1 := read_arg (ls := gdraftL) (f := 4) (by kernel_rfl) hv1 h1 z1
  obtain ⟨cs1, rfl, _⟩ := okWide_struct Tryz.underlying32 hv1
  have k1 := h1
  have lt1 : ∀ x ∈ p1, x.block < W.heap.size := by obtain ⟨m, hm⟩ := k1; exact DataW.trod_lt m _ _ _ hm
  have hv2 := hval 2 33 v2 rfl rfl
  have z2 : (d2.weights Tryz.prog 33).all (· ≤ reachBytes) = true := List.all_eq_true.2 fun n hn => List.all_eq_true.1 hsz n (DataW.weights_mem_each (j := 2) rfl rfl n hn)
  have l2 := read_arg (ls := u8x4L) (f := 4) (by kernel_rfl) hv2 h2 z2
  obtain ⟨cs2, rfl, _⟩ := okWide_arr Tryz.underlying33 hv2
  have k2 := h2
  have lt2 : ∀ x ∈ p2, x.block < W.heap.size := by obtain ⟨m, hm⟩ := k2; exact DataW.trod_lt m _ _ _ hm
  have hv3 := hval 3 35 v3 rfl rfl
  have z3 : (d3.weights Tryz.prog 35).all (· ≤ reachBytes) = true := List.all_eq_true.2 fun n hn => List.all_eq_true.1 hsz n (DataW.weights_mem_each (j := 3) rfl rfl n hn)
  have l3 := read_arg (ls := i16x3L) (f := 4) (by kernel_rfl) hv3 h3 z3
  obtain ⟨cs3, rfl, _⟩ := okWide_arr Tryz.underlying35 hv3
  have k3 := h3
  have lt3 : ∀ x ∈ p3, x.block < W.heap.size := by obtain ⟨m, hm⟩ := k3; exact DataW.trod_lt m _ _ _ hm
  have hv4 := hval 4 24 v4 rfl rfl
  have z4 : (d4.weights Tryz.prog 24).all (· ≤ reachBytes) = true := List.all_eq_true.2 fun n hn => List.all_eq_true.1 hsz n (DataW.weights_mem_each (j := 4) rfl rfl n hn)
  have l4 := read_arg (ls := u16x3L) (f := 4) (by kernel_rfl) hv4 h4 z4
  obtain ⟨cs4, rfl, _⟩ := okWide_arr Tryz.underlying24 hv4
  have k4 := h4
  have lt4 : ∀ x ∈ p4, x.block < W.heap.size := by obtain ⟨m, hm⟩ := k4; exact DataW.trod_lt m _ _ _ hm
  have hv5 := hval 5 36 v5 rfl rfl
  have z5 : (d5.weights Tryz.prog 36).all (· ≤ reachBytes) = true := List.all_eq_true.2 fun n hn => List.all_eq_true.1 hsz n (DataW.weights_mem_each (j := 5) rfl rfl n hn)
  have l5 := read_arg (ls := listL) (f := 4) (by kernel_rfl) hv5 h5 z5
  rw [okWide_one (by kernel_rfl) hv5] at l5
  have k5 := h5
  have lt5 : ∀ x ∈ p5, x.block < W.heap.size := by obtain ⟨m, hm⟩ := k5; exact DataW.trod_lt m _ _ _ hm
  refine (walk cs0 cs1 cs2 cs3 cs4 v5 W (of_laid hL) l0 l1 l2 l3 l4 l5).mono fun e W' ⟨he, bel⟩ => ?_
  subst he
  exact ⟨_, rfl, _, _, _, [], _, [], hW', trodAll_mk1 (shut_bool Tryz.underlying4 _), (trodAll_cons_mk (Below.trod laidOut (by kernel_rfl) (of_decide_eq_true (by kernel_rfl)) k0 bel lt0) (trodAll_cons_mk (Below.trod laidOut (by kernel_rfl) (of_decide_eq_true (by kernel_rfl)) k1 bel lt1) (trodAll_cons_mk (Below.trod laidOut (by kernel_rfl) (of_decide_eq_true (by kernel_rfl)) k2 bel lt2) (trodAll_cons_mk (Below.trod laidOut (by kernel_rfl) (of_decide_eq_true (by kernel_rfl)) k3 bel lt3) (trodAll_cons_mk (Below.trod laidOut (by kernel_rfl) (of_decide_eq_true (by kernel_rfl)) k4 bel lt4) (trodAll_cons_mk (Below.trod laidOut (by kernel_rfl) (of_decide_eq_true (by kernel_rfl)) k5 bel lt5) trodAll_mk0)))))), rfl, bel.frame _, fun h => by cases h⟩
theorem over : Rows.LocateFindsSaid :=
  OpenClaim.holds_of_wide 3 Tryz.f3 rfl rfl rfl rfl rfl rfl rfl ⟨rfl, rfl, rfl, rfl, rfl⟩ rfl rfl rfl rfl rfl (by kernel_rfl) Tryz.func3 (by kernel_rfl)
    (of_decide_eq_true (by kernel_rfl)) (by unfold Func.isWrapper; first | (rw [if_pos (by decide +kernel)]; kernel_rfl) | (rw [if_neg (by decide +kernel)]; exact ⟨rfl, rfl⟩))
    (fun os started H enc _ => lifted os started H enc)
/-- The given statement. -/
theorem proved : Rows.LocateFindsCardSaid :=
  Claim7.holds_tied_plain_at .later [] [.data, .data, .data, .data] true (true, "256a32793541c4432ca79d9b5c2b5e8ff5b9dcc59d68d658ba7239d9e1e90bfd") false
    over (fun _ h => by cases h) (by kernel_rfl) (fun _ h => by cases h) locateFinds_row_tie rfl ⟨rfl, rfl⟩ (by kernel_rfl) rfl
    (fun f fn hf hfn => by
      obtain rfl : f = 3 := Option.some.inj ((show Tryz.prog.funcNamed "verdigris/verdigrislaw22.LocateFinds" = some 3 by kernel_rfl).symm.trans hf) |>.symm
      obtain rfl : fn = Tryz.f3 := (Option.some.inj (Tryz.func3.symm.trans hfn)).symm
      exact ⟨by kernel_rfl, fun j t ht => by
        rw [Tryz.params3] at ht
        have h3 : t = 24 ∨ t = 28 ∨ t = 32 ∨ t = 33 ∨ t = 35 ∨ t = 36 := by
          rcases j with _ | j
          · simp at ht; subst ht; simp
          rcases j with _ | j
          · simp at ht; subst ht; simp
          rcases j with _ | j
          · simp at ht; subst ht; simp
          rcases j with _ | j
          · simp at ht; subst ht; simp
          rcases j with _ | j
          · simp at ht; subst ht; simp
          rcases j with _ | j
          · simp at ht; subst ht; simp
          simp at ht
        rcases h3 with h3 | h3 | h3 | h3 | h3 | h3
        · subst h3; exact (show Tryz.prog.wantsStandIn 24 = false by kernel_rfl)
        · subst h3; exact (show Tryz.prog.wantsStandIn 28 = false by kernel_rfl)
        · subst h3; exact (show Tryz.prog.wantsStandIn 32 = false by kernel_rfl)
        · subst h3; exact (show Tryz.prog.wantsStandIn 33 = false by kernel_rfl)
        · subst h3; exact (show Tryz.prog.wantsStandIn 35 = false by kernel_rfl)
        · subst h3; exact (show Tryz.prog.wantsStandIn 36 = false by kernel_rfl)⟩)
    (by kernel_rfl)
#print axioms proved
end Go.Proofs.YtlcaefokcnohnaaGreatDoor.locateFinds
