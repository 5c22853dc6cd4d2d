/- The law LocateBack: its Go function returns true for every argument. No condition beside the card's own: the listed variables of the library and of the program lie as the program's text lays them. -/
import Derived.Test.YtbhpaandigaanaaGreatDoorLocateBackC
import Derived.Test.YtbhpaandigaanaaGreatDoorRows
import Derived.Test.YtbhpaandigaanaaGreatDoorCards
import Derived.Test.YtbhpaandigaanaaGreatDoorTie
import Derived.Test.YtbhpaandigaanaaGreatDoorLocateBackH7
import Derived.Test.YtbhpaandigaanaaGreatDoorLocateBackH14
import Derived.WalkKit
import Derived.ProofKit
import Derived.OpenShut
import Derived.Below
import Derived.Carry
import Derived.SizedLaws
import Derived.LaidMore
import Derived.SevenTiedAt
import Derived.Lib.LaidTab
import Derived.Stop.LaidErr
import Derived.Stop.Joined
namespace Go.Proofs.YtbhpaandigaanaaGreatDoor.locateBack
open Go Go.V Go.ChangeShapes Go.WideShapes Go.ChangeAt Go.RowKit
set_option linter.unusedVariables false
/-- The given statement. -/
theorem proved : Rows.LocateBackCardSaid :=
  Claim7.holds_tied_plain_at .later [] [.data, .data, .data, .sentinel, .sentinel, .data] true (true, "d10bfe79df3df031f732fad208ac3a3622a991110b343997f4c8a05db0435a3e") true
    over (fun _ h => by cases h) (by kernel_rfl) (fun _ h => by cases h) locateBack_row_tie rfl ⟨rfl, rfl⟩ (by kernel_rfl) rfl
    (fun f fn hf hfn => by
      obtain rfl : f = 3 := Option.some.inj ((show Tryz.prog.funcNamed "verdigris/verdigrislaw22.LocateBack" = some 3 by kernel_rfl).symm.trans hf) |>.symm
      obtain rfl : fn = Tryz.f3 := (Option.some.inj (Tryz.func3.symm.trans hfn)).symm
      exact ⟨by kernel_rfl, fun j t ht => by
        rw [Tryz.params3] at ht
        have h3 : t = 28 ∨ t = 32 ∨ t = 33 ∨ t = 35 := by
          rcases j with _ | j
          · simp at ht; subst ht; simp
          rcases j with _ | j
          · simp at ht; subst ht; simp
          rcases j with _ | j
          · simp at ht; subst ht; simp
          rcases j with _ | j
          · simp at ht; subst ht; simp
          simp at ht
        rcases h3 with h3 | h3 | h3 | h3
        · subst h3; exact (show Tryz.prog.wantsStandIn 28 = false by kernel_rfl)
        · subst h3; exact (show Tryz.prog.wantsStandIn 32 = false by kernel_rfl)
        · subst h3; exact (show Tryz.prog.wantsStandIn 33 = false by kernel_rfl)
        · subst h3; exact (show Tryz.prog.wantsStandIn 35 = false by kernel_rfl)⟩)
    (by kernel_rfl)
#print axioms proved
end Go.Proofs.YtbhpaandigaanaaGreatDoor.locateBack
