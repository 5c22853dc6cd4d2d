/- The law SpectrumLinear: its Go function returns true for every argument. No condition beside the card's own: the listed variables of the library and of the program lie as the program's text lays them. -/
import Derived.Test.YtpcpgjcdkgcbpaaGreatDoorRows
import Derived.Test.YtpcpgjcdkgcbpaaGreatDoorCards
import Derived.Test.YtpcpgjcdkgcbpaaGreatDoorTie
import Derived.Test.YtpcpgjcdkgcbpaaGreatDoorH1
import Derived.Test.YtpcpgjcdkgcbpaaGreatDoorSpectrumLinearO1
import Derived.WalkKit
import Derived.ProofKit
import Derived.OpenShut
import Derived.Below
import Derived.Carry
import Derived.SizedLaws
import Derived.LaidMore
import Derived.SevenTiedAt
import Derived.Lib.LaidTab
import Derived.Stop.LaidErr
import Derived.Stop.Joined
namespace Go.Proofs.YtpcpgjcdkgcbpaaGreatDoor.spectrumLinear
open Go Go.V Go.ChangeShapes Go.WideShapes Go.ChangeAt Go.RowKit
set_option linter.unusedVariables false
theorem own : ownKnob Tryz.prog.godebug = none := by kernel_rfl
theorem laidOut : laidOutB Tryz.prog = true := by kernel_rfl
def laidL : List (String × DataW Unit) := [("math/bits.deBruijn32tab", Rows.laid_math_bits_deBruijn32tab), ("math/bits.deBruijn64tab", Rows.laid_math_bits_deBruijn64tab), ("internal/strconv.uint64pow10", Rows.laid_internal_strconv_uint64pow10), ("verdigris/spectrum.waves", Rows.laid_verdigris_spectrum_waves)]
/-- The door's own heap meets the condition. -/
theorem door_met (os : Os) (args : Array Value) : laidMetH Tryz.prog laidL ((World.doorLaid Tryz.prog 45 os).forCall (fun _ _ => 0) ⟨#[], args, []⟩).memory :=
  laidMetH_of_parts3 (fuel := 8) (laidMet_of_run' 8 (by kernel_rfl) (by kernel_rfl)) (by kernel_rfl) (by kernel_rfl)
theorem of_laid {W : World} (h : laidMetH Tryz.prog laidL W) : GlW W := by
  rw [MakeChecks.laidMetH_plain _ _ _ (by kernel_rfl)] at h
  exact glW_of_tab (Lib.tabIs_of_head (g := 1) (t := 223) (by kernel_rfl) (by kernel_rfl) Tryz.underlying223 Tryz.underlying163 (by kernel_rfl) (by kernel_rfl) h.tail.tail) (srows_of_head (rows := [[14310, 396, 67850, 147080, 827549], [134380, 4000, 645600, 209950, 934318], [348280, 23000, 1747060, 287027, 1048650], [290800, 60000, 1669200, 378121, 1178120], [95640, 139020, 812950, 482423, 1159230], [4900, 323000, 272000, 598611, 1093540], [63270, 710000, 78250, 724959, 1047900], [290400, 954000, 20300, 859470, 1044050], [594500, 995000, 3900, 1000000, 1000000], [916300, 870000, 1650, 1144360, 957880], [1062200, 631000, 800, 1290430, 900062], [854450, 381000, 190, 1436180, 876987], [447900, 175000, 20, 1579790, 836992], [164900, 61000, 0, 1719630, 802146], [46770, 17000, 0, 1854290, 782842], [11359, 4102, 0, 1982610, 716091]]) (g := 0) (t := 120) (e := 119) (n := 16) (m := 5) (by kernel_rfl) (by kernel_rfl) Tryz.underlying120 Tryz.underlying119 (fun i f h => by rcases i with _ | _ | _ | _ | _ | i <;> first | (obtain rfl := Option.some.inj h; exact ⟨Tryz.underlying3, by kernel_rfl, rfl⟩) | (simp at h)) (by kernel_rfl) rfl (by kernel_rfl) h.tail.tail.tail)
theorem walk (cs0 : Array Value) (cs1 : Array Value) (cs2 : Array Value) (v3 : Value) (w : World) (hg : GlW w) (l0 : leavesOk w draftL cs0.toList) (l1 : leavesOk w draftL cs1.toList) (l2 : leavesOk w numL cs2.toList) (l3 : leavesOk w u8L [v3]) : Calls Tryz.prog 8 #[.agg cs0, .agg cs1, .agg cs2, v3] w fun e w' => e = .returned (.bool true) ∧ Below w.heap.size w w' := by
  obtain ⟨ds0, hl0, d0, h0⟩ := iarr_den (k := .u8) (n := 16) l0
  obtain ⟨ds1, hl1, d1, h1⟩ := iarr_den (k := .u8) (n := 16) l1
  obtain ⟨n2, m2, d2, h2, g2⟩ := num_den l2
  obtain ⟨a3, d3, h3⟩ := u8_den l3
  exact (spectrumLinear_c hl0 hl1 (fun n hn => by have := h0 n hn; simpa [InR, V.lo, V.hi] using this) (fun n hn => by have := h1 n hn; simpa [InR, V.lo, V.hi] using this) h2 g2 h3).walk w (vs := [.agg cs0, .agg cs1, .agg cs2, v3]) ⟨_, _, rfl, d0, _, _, rfl, d1, _, _, rfl, d2, _, _, rfl, d3, rfl⟩ hg
set_option maxRecDepth 100000 in
theorem lifted (os : Os) (started : os.Started) (H : Type) (enc : TypeId × Value → H) :
    ReturnsInHanded {} Tryz.checked os 8 .any (fun w args => (Rows.spectrumLinearSpec.pre enc Tryz.prog Tryz.f8 [] false w args ∧ laidMetH Tryz.prog laidL w) ∧ sizedMet enc Tryz.prog Tryz.f8 (OpenSpec.ofChange Rows.spectrumLinearSpec) false w args)
      (Rows.spectrumLinearSpec.post enc Tryz.prog Tryz.f8 false true false false) := by
  refine returnsInHanded_of_change_and (C := Tryz.checked) (X := fun w _ => laidMetH Tryz.prog laidL w) (fun _ _ _ hh h => h.of_heap hh) own started (by kernel_rfl) Tryz.func8
    (ChangeSpec.witness_shaped (enc := enc) (C := Tryz.checked) (os := os) (X := fun w _ => laidMetH Tryz.prog laidL w) false (World.doorLaid Tryz.prog 45 os) #[.agg #[.int .u8 0, .int .u8 0, .int .u8 0, .int .u8 0, .int .u8 0, .int .u8 0, .int .u8 0, .int .u8 0, .int .u8 0, .int .u8 0, .int .u8 0, .int .u8 0, .int .u8 0, .int .u8 0, .int .u8 0, .int .u8 0], .agg #[.int .u8 0, .int .u8 0, .int .u8 0, .int .u8 0, .int .u8 0, .int .u8 0, .int .u8 0, .int .u8 0, .int .u8 0, .int .u8 0, .int .u8 0, .int .u8 0, .int .u8 0, .int .u8 0, .int .u8 0, .int .u8 0], .agg #[.int .i16 0, .int .u8 0], .int .u8 0] 8 rfl (World.shaped_of_RefB (by kernel_rfl) (by kernel_rfl)) (by kernel_rfl) (by kernel_rfl) (by kernel_rfl) (door_met os _)) ?_
  intro W base args ds gs before hval0 hW hcnd hsz0 hL _
  have hval : ∀ (j : Nat) t v, Tryz.f8.params[j]? = some t → args[j]? = some v → Value.okWide Tryz.prog W .any base t v := hval0
  have hsz : (DataW.weightsEach Tryz.prog (Tryz.f8.params.toList ++ Rows.spectrumLinearSpec.plain.varTypes Tryz.prog) (ds ++ gs)).all (· ≤ reachBytes) = true := hsz0
  have hW' := hW
  obtain ⟨p, q, hA0, hV, rfl, hfz, hnd⟩ := hW
  have hA : DataW.TrodAll enc Tryz.prog W 0 (fun _ => true) true Tryz.f8.params.toList args.toList ds p := hA0
  rw [Tryz.params8] at hA hval hsz
  obtain ⟨v0, vs0, d0, ds0, p0, q0, hargs, rfl, rfl, h0, r0⟩ := trodAll_cons hA
  obtain ⟨v1, vs1, d1, ds1, p1, q1, rfl, rfl, rfl, h1, r1⟩ := trodAll_cons r0
  obtain ⟨v2, vs2, d2, ds2, p2, q2, rfl, rfl, rfl, h2, r2⟩ := trodAll_cons r1
  obtain ⟨v3, vs3, d3, ds3, p3, q3, rfl, rfl, rfl, h3, r3⟩ := trodAll_cons r2
  obtain ⟨rfl, rfl, rfl⟩ := trodAll_nil r3
  obtain rfl : args = #[v0, v1, v2, v3] := by cases args; simp_all
  obtain ⟨rfl, rfl⟩ := trodVars_none hV
  have hv0 := hval 0 23 v0 rfl rfl
  have z0 : (d0.weights Tryz.prog 23).all (· ≤ reachBytes) = true := List.all_eq_true.2 fun n hn => List.all_eq_true.1 hsz n (DataW.weights_mem_each (j := 0) rfl rfl n hn)
  have l0 := read_arg (ls := draftL) (f := 4) (by kernel_rfl) hv0 h0 z0
  obtain ⟨cs0, rfl, _⟩ := okWide_arr Tryz.underlying23 hv0
  have k0 := h0
  have lt0 : ∀ x ∈ p0, x.block < W.heap.size := by obtain ⟨m, hm⟩ := k0; exact DataW.trod_lt m _ _ _ hm
  have hv1 := hval 1 23 v1 rfl rfl
  have z1 : (d1.weights Tryz.prog 23).all (· ≤ reachBytes) = true := List.all_eq_true.2 fun n hn => List.all_eq_true.1 hsz n (DataW.weights_mem_each (j := 1) rfl rfl n hn)
  have l1 := read_arg (ls := draftL) (f := 4) (by kernel_rfl) hv1 h1 z1
  obtain ⟨cs1, rfl, _⟩ := okWide_arr Tryz.underlying23 hv1
  have k1 := h1
  have lt1 : ∀ x ∈ p1, x.block < W.heap.size := by obtain ⟨m, hm⟩ := k1; exact DataW.trod_lt m _ _ _ hm
  have hv2 := hval 2 30 v2 rfl rfl
  have z2 : (d2.weights Tryz.prog 30).all (· ≤ reachBytes) = true := List.all_eq_true.2 fun n hn => List.all_eq_true.1 hsz n (DataW.weights_mem_each (j := 2) rfl rfl n hn)
  have l2 := read_arg (ls := numL) (f := 4) (by kernel_rfl) hv2 h2 z2
  obtain ⟨cs2, rfl, _⟩ := okWide_struct Tryz.underlying30 hv2
  have k2 := h2
  have lt2 : ∀ x ∈ p2, x.block < W.heap.size := by obtain ⟨m, hm⟩ := k2; exact DataW.trod_lt m _ _ _ hm
  have hv3 := hval 3 5 v3 rfl rfl
  have z3 : (d3.weights Tryz.prog 5).all (· ≤ reachBytes) = true := List.all_eq_true.2 fun n hn => List.all_eq_true.1 hsz n (DataW.weights_mem_each (j := 3) rfl rfl n hn)
  have l3 := read_arg (ls := u8L) (f := 4) (by kernel_rfl) hv3 h3 z3
  rw [okWide_one (by kernel_rfl) hv3] at l3
  have k3 := h3
  have lt3 : ∀ x ∈ p3, x.block < W.heap.size := by obtain ⟨m, hm⟩ := k3; exact DataW.trod_lt m _ _ _ hm
  refine (walk cs0 cs1 cs2 v3 W (of_laid hL) l0 l1 l2 l3).mono fun e W' ⟨he, bel⟩ => ?_
  subst he
  exact ⟨_, rfl, _, _, _, [], _, [], hW', trodAll_mk1 (shut_bool Tryz.underlying4 _), (trodAll_cons_mk (Below.trod laidOut (by kernel_rfl) (of_decide_eq_true (by kernel_rfl)) k0 bel lt0) (trodAll_cons_mk (Below.trod laidOut (by kernel_rfl) (of_decide_eq_true (by kernel_rfl)) k1 bel lt1) (trodAll_cons_mk (Below.trod laidOut (by kernel_rfl) (of_decide_eq_true (by kernel_rfl)) k2 bel lt2) (trodAll_cons_mk (Below.trod laidOut (by kernel_rfl) (of_decide_eq_true (by kernel_rfl)) k3 bel lt3) trodAll_mk0)))), rfl, bel.frame _, fun h => by cases h⟩
theorem over : Rows.SpectrumLinearSaid :=
  OpenClaim.holds_of_wide 8 Tryz.f8 rfl rfl rfl rfl rfl rfl rfl ⟨rfl, rfl, rfl, rfl, rfl⟩ rfl rfl rfl rfl rfl (by kernel_rfl) Tryz.func8 (by kernel_rfl)
    (of_decide_eq_true (by kernel_rfl)) (by unfold Func.isWrapper; first | (rw [if_pos (by decide +kernel)]; kernel_rfl) | (rw [if_neg (by decide +kernel)]; exact ⟨rfl, rfl⟩))
    (fun os started H enc _ => lifted os started H enc)
/-- The given statement. -/
theorem proved : Rows.SpectrumLinearCardSaid :=
  Claim7.holds_tied_plain_at .later [] [.data, .data, .data, .data] true (true, "7678312f9bde8edaf6ee345a3e37839cadfe13ebb2e07fc641c60b179636bab9") true
    over (fun _ h => by cases h) (by kernel_rfl) (fun _ h => by cases h) spectrumLinear_row_tie rfl ⟨rfl, rfl⟩ (by kernel_rfl) rfl
    (fun f fn hf hfn => by
      obtain rfl : f = 8 := Option.some.inj ((show Tryz.prog.funcNamed "verdigris/verdigrislaw26.SpectrumLinear" = some 8 by kernel_rfl).symm.trans hf) |>.symm
      obtain rfl : fn = Tryz.f8 := (Option.some.inj (Tryz.func8.symm.trans hfn)).symm
      exact ⟨by kernel_rfl, fun j t ht => by
        rw [Tryz.params8] at ht
        have h3 : t = 5 ∨ t = 23 ∨ t = 30 := by
          rcases j with _ | j
          · simp at ht; subst ht; simp
          rcases j with _ | j
          · simp at ht; subst ht; simp
          rcases j with _ | j
          · simp at ht; subst ht; simp
          rcases j with _ | j
          · simp at ht; subst ht; simp
          simp at ht
        rcases h3 with h3 | h3 | h3
        · subst h3; exact (show Tryz.prog.wantsStandIn 5 = false by kernel_rfl)
        · subst h3; exact (show Tryz.prog.wantsStandIn 23 = false by kernel_rfl)
        · subst h3; exact (show Tryz.prog.wantsStandIn 30 = false by kernel_rfl)⟩)
    (by kernel_rfl)
#print axioms proved
end Go.Proofs.YtpcpgjcdkgcbpaaGreatDoor.spectrumLinear
