/- The law LocateLinear: its Go function returns true for every argument. No condition beside the card's own: the listed variables of the library and of the program lie as the program's text lays them. -/
import Derived.Test.YtlcaefokcnohnaaDoorRows
import Derived.Test.YtlcaefokcnohnaaDoorCards
import Derived.Test.YtlcaefokcnohnaaDoorTie
import Derived.Test.YtlcaefokcnohnaaDoorH1
import Derived.Test.YtlcaefokcnohnaaDoorH7
import Derived.WalkKit
import Derived.ProofKit
import Derived.OpenShut
import Derived.Below
import Derived.Carry
import Derived.SizedLaws
import Derived.LaidMore
import Derived.SevenTiedAt
import Derived.Lib.LaidTab
import Derived.Stop.LaidErr
import Derived.Stop.Joined
namespace Go.Proofs.YtlcaefokcnohnaaDoor.locateLinear
open Go Go.V Go.ChangeShapes Go.WideShapes Go.ChangeAt Go.RowKit
set_option linter.unusedVariables false
theorem own : ownKnob Tryd.prog.godebug = none := by kernel_rfl
theorem laidOut : laidOutB Tryd.prog = true := by kernel_rfl
def laidL : List (String × DataW Unit) := [("math/bits.deBruijn32tab", Rows.laid_math_bits_deBruijn32tab), ("math/bits.deBruijn64tab", Rows.laid_math_bits_deBruijn64tab), ("internal/strconv.uint64pow10", Rows.laid_internal_strconv_uint64pow10), ("verdigris/locate.orders", Rows.laid_verdigris_locate_orders)]
/-- The door's own heap meets the condition. -/
theorem door_met (os : Os) (args : Array Value) : laidMetH Tryd.prog laidL ((World.doorLaid Tryd.prog 35 os).forCall (fun _ _ => 0) ⟨#[], args, []⟩).memory :=
  laidMetH_of_parts3 (fuel := 8) (laidMet_of_run' 8 (by kernel_rfl) (by kernel_rfl)) (by kernel_rfl) (by kernel_rfl)
theorem of_laid {W : World} (h : laidMetH Tryd.prog laidL W) : GlW W := by
  rw [MakeChecks.laidMetH_plain _ _ _ (by kernel_rfl)] at h
  exact glW_of_tab (Lib.tabIs_of_head (g := 1) (t := 158) (by kernel_rfl) (by kernel_rfl) Tryd.underlying158 Tryd.underlying121 (by kernel_rfl) (by kernel_rfl) h.tail.tail) (rows_of_head (rows := [[0, 1, 2], [0, 2, 1], [1, 0, 2], [1, 2, 0], [2, 0, 1], [2, 1, 0]]) (g := 0) (t := 64) (e := 33) (n := 6) (m := 3) (by kernel_rfl) (by kernel_rfl) Tryd.underlying64 Tryd.underlying33 Tryd.underlying3 (by kernel_rfl) (by kernel_rfl) (by kernel_rfl) h.tail.tail.tail)
theorem walk (cs0 : Array Value) (cs1 : Array Value) (cs2 : Array Value) (w : World) (hg : GlW w) (l0 : leavesOk w u8x3L cs0.toList) (l1 : leavesOk w u16x3L cs1.toList) (l2 : leavesOk w u16x3L cs2.toList) : Calls Tryd.prog 4 #[.agg cs0, .agg cs1, .agg cs2] w fun e w' => e = .returned (.bool true) ∧ Below w.heap.size w w' := by
  obtain ⟨x3, h3l, hd0, h3r⟩ := iarr_den (k := .u8) (n := 3) l0
  obtain ⟨y3, h3l', hd1, h3r'⟩ := iarr_den (k := .u16) (n := 3) l1
  obtain ⟨z3, h3l2, hd2, h3r2⟩ := iarr_den (k := .u16) (n := 3) l2
  obtain ⟨a, b, c, rfl⟩ : ∃ a b c, x3 = [a, b, c] := by
    match x3, h3l with
    | [a, b, c], _ => exact ⟨a, b, c, rfl⟩
  obtain ⟨m0, m1, m2, rfl⟩ : ∃ a b c, y3 = [a, b, c] := by
    match y3, h3l' with
    | [a, b, c], _ => exact ⟨a, b, c, rfl⟩
  obtain ⟨t0, t1, t2, rfl⟩ : ∃ a b c, z3 = [a, b, c] := by
    match z3, h3l2 with
    | [a, b, c], _ => exact ⟨a, b, c, rfl⟩
  have u8 : ∀ {x : Int}, V.InR .u8 x → 0 ≤ x ∧ x ≤ 255 := fun h => by simpa [V.InR, V.lo, V.hi] using h
  have u16 : ∀ {x : Int}, V.InR .u16 x → 0 ≤ x ∧ x ≤ 65535 := fun h => by simpa [V.InR, V.lo, V.hi] using h
  exact (linear_c a b c m0 m1 m2 t0 t1 t2 (u8 (h3r a (by simp))) (u8 (h3r b (by simp))) (u8 (h3r c (by simp))) (u16 (h3r' m0 (by simp))) (u16 (h3r' m1 (by simp))) (u16 (h3r' m2 (by simp))) (u16 (h3r2 t0 (by simp))) (u16 (h3r2 t1 (by simp))) (u16 (h3r2 t2 (by simp)))).walk w (vs := [.agg cs0, .agg cs1, .agg cs2]) ⟨_, _, rfl, hd0, _, _, rfl, hd1, _, _, rfl, hd2, rfl⟩ hg
set_option maxRecDepth 100000 in
theorem lifted (os : Os) (started : os.Started) (H : Type) (enc : TypeId × Value → H) :
    ReturnsInHanded {} Tryd.checked os 4 .any (fun w args => (Rows.locateLinearSpec.pre enc Tryd.prog Tryd.f4 [] false w args ∧ laidMetH Tryd.prog laidL w) ∧ sizedMet enc Tryd.prog Tryd.f4 (OpenSpec.ofChange Rows.locateLinearSpec) false w args)
      (Rows.locateLinearSpec.post enc Tryd.prog Tryd.f4 false true false false) := by
  refine returnsInHanded_of_change_and (C := Tryd.checked) (X := fun w _ => laidMetH Tryd.prog laidL w) (fun _ _ _ hh h => h.of_heap hh) own started (by kernel_rfl) Tryd.func4
    (ChangeSpec.witness_shaped (enc := enc) (C := Tryd.checked) (os := os) (X := fun w _ => laidMetH Tryd.prog laidL w) false (World.doorLaid Tryd.prog 35 os) #[.agg #[.int .u8 0, .int .u8 0, .int .u8 0], .agg #[.int .u16 0, .int .u16 0, .int .u16 0], .agg #[.int .u16 0, .int .u16 0, .int .u16 0]] 8 rfl (World.shaped_of_RefB (by kernel_rfl) (by kernel_rfl)) (by kernel_rfl) (by kernel_rfl) (by kernel_rfl) (door_met os _)) ?_
  intro W base args ds gs before hval0 hW hcnd hsz0 hL _
  have hval : ∀ (j : Nat) t v, Tryd.f4.params[j]? = some t → args[j]? = some v → Value.okWide Tryd.prog W .any base t v := hval0
  have hsz : (DataW.weightsEach Tryd.prog (Tryd.f4.params.toList ++ Rows.locateLinearSpec.plain.varTypes Tryd.prog) (ds ++ gs)).all (· ≤ reachBytes) = true := hsz0
  have hW' := hW
  obtain ⟨p, q, hA0, hV, rfl, hfz, hnd⟩ := hW
  have hA : DataW.TrodAll enc Tryd.prog W 0 (fun _ => true) true Tryd.f4.params.toList args.toList ds p := hA0
  rw [Tryd.params4] at hA hval hsz
  obtain ⟨v0, vs0, d0, ds0, p0, q0, hargs, rfl, rfl, h0, r0⟩ := trodAll_cons hA
  obtain ⟨v1, vs1, d1, ds1, p1, q1, rfl, rfl, rfl, h1, r1⟩ := trodAll_cons r0
  obtain ⟨v2, vs2, d2, ds2, p2, q2, rfl, rfl, rfl, h2, r2⟩ := trodAll_cons r1
  obtain ⟨rfl, rfl, rfl⟩ := trodAll_nil r2
  obtain rfl : args = #[v0, v1, v2] := by cases args; simp_all
  obtain ⟨rfl, rfl⟩ := trodVars_none hV
  have hv0 := hval 0 39 v0 rfl rfl
  have z0 : (d0.weights Tryd.prog 39).all (· ≤ reachBytes) = true := List.all_eq_true.2 fun n hn => List.all_eq_true.1 hsz n (DataW.weights_mem_each (j := 0) rfl rfl n hn)
  have l0 := read_arg (ls := u8x3L) (f := 4) (by kernel_rfl) hv0 h0 z0
  obtain ⟨cs0, rfl, _⟩ := okWide_arr Tryd.underlying39 hv0
  have k0 := h0
  have lt0 : ∀ x ∈ p0, x.block < W.heap.size := by obtain ⟨m, hm⟩ := k0; exact DataW.trod_lt m _ _ _ hm
  have hv1 := hval 1 41 v1 rfl rfl
  have z1 : (d1.weights Tryd.prog 41).all (· ≤ reachBytes) = true := List.all_eq_true.2 fun n hn => List.all_eq_true.1 hsz n (DataW.weights_mem_each (j := 1) rfl rfl n hn)
  have l1 := read_arg (ls := u16x3L) (f := 4) (by kernel_rfl) hv1 h1 z1
  obtain ⟨cs1, rfl, _⟩ := okWide_arr Tryd.underlying41 hv1
  have k1 := h1
  have lt1 : ∀ x ∈ p1, x.block < W.heap.size := by obtain ⟨m, hm⟩ := k1; exact DataW.trod_lt m _ _ _ hm
  have hv2 := hval 2 41 v2 rfl rfl
  have z2 : (d2.weights Tryd.prog 41).all (· ≤ reachBytes) = true := List.all_eq_true.2 fun n hn => List.all_eq_true.1 hsz n (DataW.weights_mem_each (j := 2) rfl rfl n hn)
  have l2 := read_arg (ls := u16x3L) (f := 4) (by kernel_rfl) hv2 h2 z2
  obtain ⟨cs2, rfl, _⟩ := okWide_arr Tryd.underlying41 hv2
  have k2 := h2
  have lt2 : ∀ x ∈ p2, x.block < W.heap.size := by obtain ⟨m, hm⟩ := k2; exact DataW.trod_lt m _ _ _ hm
  refine (walk cs0 cs1 cs2 W (of_laid hL) l0 l1 l2).mono fun e W' ⟨he, bel⟩ => ?_
  subst he
  exact ⟨_, rfl, _, _, _, [], _, [], hW', trodAll_mk1 (shut_bool Tryd.underlying4 _), (trodAll_cons_mk (Below.trod laidOut (by kernel_rfl) (of_decide_eq_true (by kernel_rfl)) k0 bel lt0) (trodAll_cons_mk (Below.trod laidOut (by kernel_rfl) (of_decide_eq_true (by kernel_rfl)) k1 bel lt1) (trodAll_cons_mk (Below.trod laidOut (by kernel_rfl) (of_decide_eq_true (by kernel_rfl)) k2 bel lt2) trodAll_mk0))), rfl, bel.frame _, fun h => by cases h⟩
theorem over : Rows.LocateLinearSaid :=
  OpenClaim.holds_of_wide 4 Tryd.f4 rfl rfl rfl rfl rfl rfl rfl ⟨rfl, rfl, rfl, rfl, rfl⟩ rfl rfl rfl rfl rfl (by kernel_rfl) Tryd.func4 (by kernel_rfl)
    (of_decide_eq_true (by kernel_rfl)) (by unfold Func.isWrapper; first | (rw [if_pos (by decide +kernel)]; kernel_rfl) | (rw [if_neg (by decide +kernel)]; exact ⟨rfl, rfl⟩))
    (fun os started H enc _ => lifted os started H enc)
/-- The given statement. -/
theorem proved : Rows.LocateLinearCardSaid :=
  Claim7.holds_tied_plain_at .later [] [.data, .data, .data, .data] true (true, "6f495992b373c2665e50c4ad40441773abac20404096db6504d332fe4c8f76be") false
    over (fun _ h => by cases h) (by kernel_rfl) (fun _ h => by cases h) locateLinear_row_tie rfl ⟨rfl, rfl⟩ (by kernel_rfl) rfl
    (fun f fn hf hfn => by
      obtain rfl : f = 4 := Option.some.inj ((show Tryd.prog.funcNamed "verdigris/verdigrislaw22.LocateLinear" = some 4 by kernel_rfl).symm.trans hf) |>.symm
      obtain rfl : fn = Tryd.f4 := (Option.some.inj (Tryd.func4.symm.trans hfn)).symm
      exact ⟨by kernel_rfl, fun j t ht => by
        rw [Tryd.params4] at ht
        have h3 : t = 39 ∨ t = 41 := by
          rcases j with _ | j
          · simp at ht; subst ht; simp
          rcases j with _ | j
          · simp at ht; subst ht; simp
          rcases j with _ | j
          · simp at ht; subst ht; simp
          simp at ht
        rcases h3 with h3 | h3
        · subst h3; exact (show Tryd.prog.wantsStandIn 39 = false by kernel_rfl)
        · subst h3; exact (show Tryd.prog.wantsStandIn 41 = false by kernel_rfl)⟩)
    (by kernel_rfl)
#print axioms proved
end Go.Proofs.YtlcaefokcnohnaaDoor.locateLinear
