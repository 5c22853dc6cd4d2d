/- The walk, told of the function's own call. -/
import Derived.Test.YtbnghipgicmpdaaGreatDoorSimplexBandsA
import Derived.Test.YtbnghipgicmpdaaGreatDoorRows
import Derived.Test.YtbnghipgicmpdaaGreatDoorCards
import Derived.Test.YtbnghipgicmpdaaGreatDoorTie
import Derived.Test.YtbnghipgicmpdaaGreatDoorSimplexBandsH9
import Derived.Test.YtbnghipgicmpdaaGreatDoorSimplexBandsH11
import Derived.WalkKit
import Derived.ProofKit
import Derived.OpenShut
import Derived.Below
import Derived.Carry
import Derived.SizedLaws
import Derived.LaidMore
import Derived.SevenTiedAt
import Derived.Lib.LaidTab
import Derived.Stop.LaidErr
import Derived.Stop.Joined
namespace Go.Proofs.YtbnghipgicmpdaaGreatDoor.simplexBands
open Go Go.V Go.ChangeShapes Go.WideShapes Go.ChangeAt Go.RowKit
set_option linter.unusedVariables false
theorem walk (cs0 : Array Value) (v1 : Value) (cs2 : Array Value) (v3 : Value) (w : World) (hg : GlW w) (l0 : leavesOk w gdraftL cs0.toList) (l1 : leavesOk w u8L [v1]) (l2 : leavesOk w i16x8L cs2.toList) (l3 : leavesOk w bndsL [v3]) : Calls Tryz.prog 4 #[.agg cs0, v1, .agg cs2, v3] w fun e w' => e = .returned (.bool true) ∧ Below w.heap.size w w' := by
  obtain ⟨ds, o, vals, sm, d0, hd, hdl, ho, hv, hvl⟩ := gdraft_den l0
  obtain ⟨kb, d1, h1⟩ := u8_den l1
  obtain ⟨a, b, d2, ha, hb⟩ := pairs4_den l2 (by simp [InR, V.lo, V.hi])
  obtain ⟨R, d3, hR⟩ := bnds_den l3
  exact (sbands_c R ds o vals sm kb a b hR h1 hd hdl ho hv hvl (fun i => by have := ha i; simpa [InR, V.lo, V.hi] using this) (fun i => by have := hb i; simpa [InR, V.lo, V.hi] using this)).walk w (vs := [.agg cs0, v1, .agg cs2, v3]) ⟨_, _, rfl, d0, _, _, rfl, d1, _, _, rfl, d2, _, _, rfl, d3, rfl⟩ hg
set_option maxRecDepth 100000 in
theorem lifted (os : Os) (started : os.Started) (H : Type) (enc : TypeId × Value → H) :
    ReturnsInHanded {} Tryz.checked os 4 .any (fun w args => (Rows.simplexBandsSpec.pre enc Tryz.prog Tryz.f4 [] false w args ∧ laidMetH Tryz.prog laidL w) ∧ sizedMet enc Tryz.prog Tryz.f4 (OpenSpec.ofChange Rows.simplexBandsSpec) false w args)
      (Rows.simplexBandsSpec.post enc Tryz.prog Tryz.f4 false true false false) := by
  refine returnsInHanded_of_change_and (C := Tryz.checked) (X := fun w _ => laidMetH Tryz.prog laidL w) (fun _ _ _ hh h => h.of_heap hh) own started (by kernel_rfl) Tryz.func4
    (ChangeSpec.witness_shaped (enc := enc) (C := Tryz.checked) (os := os) (X := fun w _ => laidMetH Tryz.prog laidL w) false (World.doorLaid Tryz.prog 62 os) #[.agg #[.slice none 0 0, .int .u8 0, .slice none 0 0, .bool false], .int .u8 0, .agg #[.int .i16 0, .int .i16 0, .int .i16 0, .int .i16 0, .int .i16 0, .int .i16 0, .int .i16 0, .int .i16 0], .slice none 0 0] 8 rfl (World.shaped_of_RefB (by kernel_rfl) (by kernel_rfl)) (by kernel_rfl) (by kernel_rfl) (by kernel_rfl) (door_met os _)) ?_
  intro W base args ds gs before hval0 hW hcnd hsz0 hL _
  have hval : ∀ (j : Nat) t v, Tryz.f4.params[j]? = some t → args[j]? = some v → Value.okWide Tryz.prog W .any base t v := hval0
  have hsz : (DataW.weightsEach Tryz.prog (Tryz.f4.params.toList ++ Rows.simplexBandsSpec.plain.varTypes Tryz.prog) (ds ++ gs)).all (· ≤ reachBytes) = true := hsz0
  have hW' := hW
  obtain ⟨p, q, hA0, hV, rfl, hfz, hnd⟩ := hW
  have hA : DataW.TrodAll enc Tryz.prog W 0 (fun _ => true) true Tryz.f4.params.toList args.toList ds p := hA0
  rw [Tryz.params4] at hA hval hsz
  obtain ⟨v0, vs0, d0, ds0, p0, q0, hargs, rfl, rfl, h0, r0⟩ := trodAll_cons hA
  obtain ⟨v1, vs1, d1, ds1, p1, q1, rfl, rfl, rfl, h1, r1⟩ := trodAll_cons r0
  obtain ⟨v2, vs2, d2, ds2, p2, q2, rfl, rfl, rfl, h2, r2⟩ := trodAll_cons r1
  obtain ⟨v3, vs3, d3, ds3, p3, q3, rfl, rfl, rfl, h3, r3⟩ := trodAll_cons r2
  obtain ⟨rfl, rfl, rfl⟩ := trodAll_nil r3
  obtain rfl : args = #[v0, v1, v2, v3] := by cases args; simp_all
  obtain ⟨rfl, rfl⟩ := trodVars_none hV
  have hv0 := hval 0 25 v0 rfl rfl
  have z0 : (d0.weights Tryz.prog 25).all (· ≤ reachBytes) = true := List.all_eq_true.2 fun n hn => List.all_eq_true.1 hsz n (DataW.weights_mem_each (j := 0) rfl rfl n hn)
  have l0 := read_arg (ls := gdraftL) (f := 4) (by kernel_rfl) hv0 h0 z0
  obtain ⟨cs0, rfl, _⟩ := okWide_struct Tryz.underlying25 hv0
  have k0 := h0
  have lt0 : ∀ x ∈ p0, x.block < W.heap.size := by obtain ⟨m, hm⟩ := k0; exact DataW.trod_lt m _ _ _ hm
  have hv1 := hval 1 5 v1 rfl rfl
  have z1 : (d1.weights Tryz.prog 5).all (· ≤ reachBytes) = true := List.all_eq_true.2 fun n hn => List.all_eq_true.1 hsz n (DataW.weights_mem_each (j := 1) rfl rfl n hn)
  have l1 := read_arg (ls := u8L) (f := 4) (by kernel_rfl) hv1 h1 z1
  rw [okWide_one (by kernel_rfl) hv1] at l1
  have k1 := h1
  have lt1 : ∀ x ∈ p1, x.block < W.heap.size := by obtain ⟨m, hm⟩ := k1; exact DataW.trod_lt m _ _ _ hm
  have hv2 := hval 2 61 v2 rfl rfl
  have z2 : (d2.weights Tryz.prog 61).all (· ≤ reachBytes) = true := List.all_eq_true.2 fun n hn => List.all_eq_true.1 hsz n (DataW.weights_mem_each (j := 2) rfl rfl n hn)
  have l2 := read_arg (ls := i16x8L) (f := 4) (by kernel_rfl) hv2 h2 z2
  obtain ⟨cs2, rfl, _⟩ := okWide_arr Tryz.underlying61 hv2
  have k2 := h2
  have lt2 : ∀ x ∈ p2, x.block < W.heap.size := by obtain ⟨m, hm⟩ := k2; exact DataW.trod_lt m _ _ _ hm
  have hv3 := hval 3 62 v3 rfl rfl
  have z3 : (d3.weights Tryz.prog 62).all (· ≤ reachBytes) = true := List.all_eq_true.2 fun n hn => List.all_eq_true.1 hsz n (DataW.weights_mem_each (j := 3) rfl rfl n hn)
  have l3 := read_arg (ls := bndsL) (f := 4) (by kernel_rfl) hv3 h3 z3
  rw [okWide_one (by kernel_rfl) hv3] at l3
  have k3 := h3
  have lt3 : ∀ x ∈ p3, x.block < W.heap.size := by obtain ⟨m, hm⟩ := k3; exact DataW.trod_lt m _ _ _ hm
  refine (walk cs0 v1 cs2 v3 W (of_laid hL) l0 l1 l2 l3).mono fun e W' ⟨he, bel⟩ => ?_
  subst he
  exact ⟨_, rfl, _, _, _, [], _, [], hW', trodAll_mk1 (shut_bool Tryz.underlying4 _), (trodAll_cons_mk (Below.trod laidOut (by kernel_rfl) (of_decide_eq_true (by kernel_rfl)) k0 bel lt0) (trodAll_cons_mk (Below.trod laidOut (by kernel_rfl) (of_decide_eq_true (by kernel_rfl)) k1 bel lt1) (trodAll_cons_mk (Below.trod laidOut (by kernel_rfl) (of_decide_eq_true (by kernel_rfl)) k2 bel lt2) (trodAll_cons_mk (Below.trod laidOut (by kernel_rfl) (of_decide_eq_true (by kernel_rfl)) k3 bel lt3) trodAll_mk0)))), rfl, bel.frame _, fun h => by cases h⟩
end Go.Proofs.YtbnghipgicmpdaaGreatDoor.simplexBands
