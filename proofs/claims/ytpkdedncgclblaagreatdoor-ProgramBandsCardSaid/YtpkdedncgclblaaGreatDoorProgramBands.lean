/- The law ProgramBands: its Go function returns true for every argument. No condition beside the card's own: the listed variables of the library lie as the program's text lays them. -/
import Derived.Test.YtpkdedncgclblaaGreatDoorProgramBandsC
import Derived.Test.YtpkdedncgclblaaGreatDoorRows
import Derived.Test.YtpkdedncgclblaaGreatDoorCards
import Derived.Test.YtpkdedncgclblaaGreatDoorTie
import Derived.Test.YtpkdedncgclblaaGreatDoorProgramBandsH16
import Derived.Test.YtpkdedncgclblaaGreatDoorProgramBandsH17
import Derived.WalkKit
import Derived.ProofKit
import Derived.OpenShut
import Derived.Below
import Derived.Carry
import Derived.SizedLaws
import Derived.LaidMore
import Derived.SevenTiedAt
import Derived.Lib.LaidTab
import Derived.Stop.LaidErr
import Derived.Stop.Joined
namespace Go.Proofs.YtpkdedncgclblaaGreatDoor.programBands
open Go Go.V Go.ChangeShapes Go.WideShapes Go.ChangeAt Go.RowKit
set_option linter.unusedVariables false
/-- The given statement. -/
theorem proved : Rows.ProgramBandsCardSaid :=
  Claim7.holds_tied_plain_at .later [] [.data, .data, .data, .sentinel, .sentinel] true (true, "7f598fa37259e171d750e4ba99dbdeba753864523edc075d9f09ec06e4c900b7") true
    over (fun _ h => by cases h) (by kernel_rfl) (fun _ h => by cases h) programBands_row_tie rfl ⟨rfl, rfl⟩ (by kernel_rfl) rfl
    (fun f fn hf hfn => by
      obtain rfl : f = 10 := Option.some.inj ((show Tryz.prog.funcNamed "verdigris/verdigrislaw12.ProgramBands" = some 10 by kernel_rfl).symm.trans hf) |>.symm
      obtain rfl : fn = Tryz.f10 := (Option.some.inj (Tryz.func10.symm.trans hfn)).symm
      exact ⟨by kernel_rfl, fun j t ht => by
        rw [Tryz.params10] at ht
        have h3 : t = 3 ∨ t = 40 ∨ t = 41 ∨ t = 46 ∨ t = 81 := by
          rcases j with _ | j
          · simp at ht; subst ht; simp
          rcases j with _ | j
          · simp at ht; subst ht; simp
          rcases j with _ | j
          · simp at ht; subst ht; simp
          rcases j with _ | j
          · simp at ht; subst ht; simp
          rcases j with _ | j
          · simp at ht; subst ht; simp
          simp at ht
        rcases h3 with h3 | h3 | h3 | h3 | h3
        · subst h3; exact (show Tryz.prog.wantsStandIn 3 = false by kernel_rfl)
        · subst h3; exact (show Tryz.prog.wantsStandIn 40 = false by kernel_rfl)
        · subst h3; exact (show Tryz.prog.wantsStandIn 41 = false by kernel_rfl)
        · subst h3; exact (show Tryz.prog.wantsStandIn 46 = false by kernel_rfl)
        · subst h3; exact (show Tryz.prog.wantsStandIn 81 = false by kernel_rfl)⟩)
    (by kernel_rfl)
#print axioms proved
end Go.Proofs.YtpkdedncgclblaaGreatDoor.programBands
