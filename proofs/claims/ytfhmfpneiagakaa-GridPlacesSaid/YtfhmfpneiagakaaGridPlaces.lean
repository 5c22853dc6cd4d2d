/- The law GridPlaces: its Go function returns true for every argument. No condition. -/
import Derived.Test.YtfhmfpneiagakaaRows
import Derived.Test.YtfhmfpneiagakaaR3
import Derived.Test.YtfhmfpneiagakaaT25
import Derived.WalkKit
import Derived.ProofKit
import Derived.OpenShut
import Derived.Below
import Derived.Carry
import Derived.SizedLaws
namespace Go.Proofs.Ytfhmfpneiagakaa.gridPlaces
open Go Go.V Go.ChangeShapes Go.WideShapes Go.ChangeAt Go.RowKit
set_option linter.unusedVariables false
theorem own : ownKnob Try.prog.godebug = none := by kernel_rfl
theorem laidOut : laidOutB Try.prog = true := by kernel_rfl
theorem walk (cs0 : Array Value) (cs1 : Array Value) (cs2 : Array Value) (v3 : Value) (cs4 : Array Value) (w : World) (l0 : leavesOk w gridL cs0.toList) (l1 : leavesOk w draftL cs1.toList) (l2 : leavesOk w bendsL cs2.toList) (l3 : leavesOk w intsL [v3]) (l4 : leavesOk w near4L cs4.toList) : Calls Try.prog 3 #[.agg cs0, .agg cs1, .agg cs2, v3, .agg cs4] w fun e w' => e = .returned (.bool true) ∧ Below w.heap.size w w' := by
  obtain ⟨size, out, data, hg, g1, g2⟩ := grid_den l0
  obtain ⟨ds, o, vals, sm, hd, b1, b2, b3, b4, b5⟩ := draft_den l1
  obtain ⟨w0, a0, n0, w1, a1, n1, hb, c1, c2, c3, c4⟩ := bends_den l2
  obtain ⟨xs, hx, d1⟩ := ints_den l3
  obtain ⟨x0, x1, x2, x3, hn, f0, f1, f2, f3⟩ := near_den l4
  exact (places_c size out data ds o vals sm w0 a0 n0 w1 a1 n1 xs x0 x1 x2 x3 g1 g2 b1 b2 b3 b4 b5 c1 c2 c3 c4 d1 f0 f1 f2 f3).walk w (vs := [.agg cs0, .agg cs1, .agg cs2, v3, .agg cs4]) ⟨_, _, rfl, hg, _, _, rfl, hd, _, _, rfl, hb, _, _, rfl, hx, _, _, rfl, hn, rfl⟩
set_option maxRecDepth 100000 in
theorem lifted (os : Os) (started : os.Started) (H : Type) (enc : TypeId × Value → H) :
    ReturnsInHanded {} Try.checked os 3 .any (Rows.gridPlacesSpec.pre6 enc Try.prog Try.f3 Rows.gridPlacesRow.domain false) (Rows.gridPlacesSpec.post enc Try.prog Try.f3 false true false false) := by
  refine returnsInHanded_of_change_sized (C := Try.checked) own started (by kernel_rfl) Try.func3
    (ChangeSpec.witness6 (enc := enc) (C := Try.checked) false ⟨#[], #[.agg #[.slice none 0 0, .int .i64 0, .slice none 0 0], .agg #[.slice none 0 0, .int .u8 0, .slice none 0 0, .bool false], .agg #[.int .u8 0, .int .u8 0, .int .i64 0, .int .u8 0, .int .u8 0, .int .i64 0], .slice none 0 0, .agg #[.int .u8 0, .int .u8 0, .int .u8 0, .int .u8 0]], []⟩ 8 (by kernel_rfl) (by kernel_rfl) (by kernel_rfl) (by kernel_rfl)) ?_
  intro W base args ds gs before hval0 hW hcnd hsz0 _
  have hval : ∀ (j : Nat) t v, Try.f3.params[j]? = some t → args[j]? = some v → Value.okWide Try.prog W .any base t v := hval0
  have hsz : (DataW.weightsEach Try.prog (Try.f3.params.toList ++ Rows.gridPlacesSpec.plain.varTypes Try.prog) (ds ++ gs)).all (· ≤ reachBytes) = true := hsz0
  have hW' := hW
  obtain ⟨p, q, hA0, hV, rfl, hfz, hnd⟩ := hW
  have hA : DataW.TrodAll enc Try.prog W 0 (fun _ => true) true Try.f3.params.toList args.toList ds p := hA0
  rw [Try.params3] at hA hval hsz
  obtain ⟨v0, vs0, d0, ds0, p0, q0, hargs, rfl, rfl, h0, r0⟩ := trodAll_cons hA
  obtain ⟨v1, vs1, d1, ds1, p1, q1, rfl, rfl, rfl, h1, r1⟩ := trodAll_cons r0
  obtain ⟨v2, vs2, d2, ds2, p2, q2, rfl, rfl, rfl, h2, r2⟩ := trodAll_cons r1
  obtain ⟨v3, vs3, d3, ds3, p3, q3, rfl, rfl, rfl, h3, r3⟩ := trodAll_cons r2
  obtain ⟨v4, vs4, d4, ds4, p4, q4, rfl, rfl, rfl, h4, r4⟩ := trodAll_cons r3
  obtain ⟨rfl, rfl, rfl⟩ := trodAll_nil r4
  obtain rfl : args = #[v0, v1, v2, v3, v4] := by cases args; simp_all
  obtain ⟨rfl, rfl⟩ := trodVars_none hV
  have hv0 := hval 0 24 v0 rfl rfl
  have z0 : (d0.weights Try.prog 24).all (· ≤ reachBytes) = true := List.all_eq_true.2 fun n hn => List.all_eq_true.1 hsz n (DataW.weights_mem_each (j := 0) rfl rfl n hn)
  have l0 := read_arg (ls := gridL) (f := 4) (by kernel_rfl) hv0 h0 z0
  obtain ⟨cs0, rfl, _⟩ := okWide_struct Try.underlying24 hv0
  have k0 := h0
  have lt0 : ∀ x ∈ p0, x.block < W.heap.size := by obtain ⟨m, hm⟩ := k0; exact DataW.trod_lt m _ _ _ hm
  have hv1 := hval 1 28 v1 rfl rfl
  have z1 : (d1.weights Try.prog 28).all (· ≤ reachBytes) = true := List.all_eq_true.2 fun n hn => List.all_eq_true.1 hsz n (DataW.weights_mem_each (j := 1) rfl rfl n hn)
  have l1 := read_arg (ls := draftL) (f := 4) (by kernel_rfl) hv1 h1 z1
  obtain ⟨cs1, rfl, _⟩ := okWide_struct Try.underlying28 hv1
  have k1 := h1
  have lt1 : ∀ x ∈ p1, x.block < W.heap.size := by obtain ⟨m, hm⟩ := k1; exact DataW.trod_lt m _ _ _ hm
  have hv2 := hval 2 31 v2 rfl rfl
  have z2 : (d2.weights Try.prog 31).all (· ≤ reachBytes) = true := List.all_eq_true.2 fun n hn => List.all_eq_true.1 hsz n (DataW.weights_mem_each (j := 2) rfl rfl n hn)
  have l2 := read_arg (ls := bendsL) (f := 4) (by kernel_rfl) hv2 h2 z2
  obtain ⟨cs2, rfl, _⟩ := okWide_arr Try.underlying31 hv2
  have k2 := h2
  have lt2 : ∀ x ∈ p2, x.block < W.heap.size := by obtain ⟨m, hm⟩ := k2; exact DataW.trod_lt m _ _ _ hm
  have hv3 := hval 3 22 v3 rfl rfl
  have z3 : (d3.weights Try.prog 22).all (· ≤ reachBytes) = true := List.all_eq_true.2 fun n hn => List.all_eq_true.1 hsz n (DataW.weights_mem_each (j := 3) rfl rfl n hn)
  have l3 := read_arg (ls := intsL) (f := 4) (by kernel_rfl) hv3 h3 z3
  rw [okWide_one (by kernel_rfl) hv3] at l3
  have k3 := h3
  have lt3 : ∀ x ∈ p3, x.block < W.heap.size := by obtain ⟨m, hm⟩ := k3; exact DataW.trod_lt m _ _ _ hm
  have hv4 := hval 4 32 v4 rfl rfl
  have z4 : (d4.weights Try.prog 32).all (· ≤ reachBytes) = true := List.all_eq_true.2 fun n hn => List.all_eq_true.1 hsz n (DataW.weights_mem_each (j := 4) rfl rfl n hn)
  have l4 := read_arg (ls := near4L) (f := 4) (by kernel_rfl) hv4 h4 z4
  obtain ⟨cs4, rfl, _⟩ := okWide_arr Try.underlying32 hv4
  have k4 := h4
  have lt4 : ∀ x ∈ p4, x.block < W.heap.size := by obtain ⟨m, hm⟩ := k4; exact DataW.trod_lt m _ _ _ hm
  refine (walk cs0 cs1 cs2 v3 cs4 W l0 l1 l2 l3 l4).mono fun e W' ⟨he, bel⟩ => ?_
  subst he
  exact ⟨_, rfl, _, _, _, [], _, [], hW', trodAll_mk1 (shut_bool Try.underlying4 _), (trodAll_cons_mk (Below.trod laidOut (by kernel_rfl) (of_decide_eq_true (by kernel_rfl)) k0 bel lt0) (trodAll_cons_mk (Below.trod laidOut (by kernel_rfl) (of_decide_eq_true (by kernel_rfl)) k1 bel lt1) (trodAll_cons_mk (Below.trod laidOut (by kernel_rfl) (of_decide_eq_true (by kernel_rfl)) k2 bel lt2) (trodAll_cons_mk (Below.trod laidOut (by kernel_rfl) (of_decide_eq_true (by kernel_rfl)) k3 bel lt3) (trodAll_cons_mk (Below.trod laidOut (by kernel_rfl) (of_decide_eq_true (by kernel_rfl)) k4 bel lt4) trodAll_mk0))))), rfl, bel.frame _, fun h => by cases h⟩
theorem over : Rows.gridPlacesRow.holds Try.pinned (OpenSpec.ofChange Rows.gridPlacesSpec) :=
  OpenClaim.holds_of_wide 3 Try.f3 rfl rfl rfl rfl rfl rfl rfl ⟨rfl, rfl, rfl, rfl, rfl⟩ rfl rfl rfl rfl rfl (by kernel_rfl) Try.func3 (by kernel_rfl)
    (of_decide_eq_true (by kernel_rfl)) (by unfold Func.isWrapper; first | (rw [if_pos (by decide +kernel)]; kernel_rfl) | (rw [if_neg (by decide +kernel)]; exact ⟨rfl, rfl⟩))
    (fun os started H enc _ => lifted os started H enc)
/-- The given statement. -/
theorem proved : Rows.GridPlacesSaid :=
  over
#print axioms proved
end Go.Proofs.Ytfhmfpneiagakaa.gridPlaces
