/- The law ProgramRuns: its Go function returns true for every argument. No condition beside the card's own: the listed variables of the library lie as the program's text lays them. -/
import Derived.Test.YtpkdedncgclblaaGreatDoorProgramRunsC
import Derived.Test.YtpkdedncgclblaaGreatDoorRows
import Derived.Test.YtpkdedncgclblaaGreatDoorCards
import Derived.Test.YtpkdedncgclblaaGreatDoorTie
import Derived.Test.YtpkdedncgclblaaGreatDoorProgramRunsH17
import Derived.WalkKit
import Derived.ProofKit
import Derived.OpenShut
import Derived.Below
import Derived.Carry
import Derived.SizedLaws
import Derived.LaidMore
import Derived.SevenTiedAt
import Derived.Lib.LaidTab
import Derived.Stop.LaidErr
import Derived.Stop.Joined
namespace Go.Proofs.YtpkdedncgclblaaGreatDoor.programRuns
open Go Go.V Go.ChangeShapes Go.WideShapes Go.ChangeAt Go.RowKit
set_option linter.unusedVariables false
/-- The given statement. -/
theorem proved : Rows.ProgramRunsCardSaid :=
  Claim7.holds_tied_plain_at .later [] [.data, .data, .data, .sentinel, .sentinel] true (true, "7f598fa37259e171d750e4ba99dbdeba753864523edc075d9f09ec06e4c900b7") true
    over (fun _ h => by cases h) (by kernel_rfl) (fun _ h => by cases h) programRuns_row_tie rfl ⟨rfl, rfl⟩ (by kernel_rfl) rfl
    (fun f fn hf hfn => by
      obtain rfl : f = 9 := Option.some.inj ((show Tryz.prog.funcNamed "verdigris/verdigrislaw12.ProgramRuns" = some 9 by kernel_rfl).symm.trans hf) |>.symm
      obtain rfl : fn = Tryz.f9 := (Option.some.inj (Tryz.func9.symm.trans hfn)).symm
      exact ⟨by kernel_rfl, fun j t ht => by
        rw [Tryz.params9] at ht
        have h3 : t = 3 ∨ t = 40 ∨ t = 51 ∨ t = 60 ∨ t = 66 ∨ t = 81 := by
          rcases j with _ | j
          · simp at ht; subst ht; simp
          rcases j with _ | j
          · simp at ht; subst ht; simp
          rcases j with _ | j
          · simp at ht; subst ht; simp
          rcases j with _ | j
          · simp at ht; subst ht; simp
          rcases j with _ | j
          · simp at ht; subst ht; simp
          rcases j with _ | j
          · simp at ht; subst ht; simp
          simp at ht
        rcases h3 with h3 | h3 | h3 | h3 | h3 | h3
        · subst h3; exact (show Tryz.prog.wantsStandIn 3 = false by kernel_rfl)
        · subst h3; exact (show Tryz.prog.wantsStandIn 40 = false by kernel_rfl)
        · subst h3; exact (show Tryz.prog.wantsStandIn 51 = false by kernel_rfl)
        · subst h3; exact (show Tryz.prog.wantsStandIn 60 = false by kernel_rfl)
        · subst h3; exact (show Tryz.prog.wantsStandIn 66 = false by kernel_rfl)
        · subst h3; exact (show Tryz.prog.wantsStandIn 81 = false by kernel_rfl)⟩)
    (by kernel_rfl)
#print axioms proved
end Go.Proofs.YtpkdedncgclblaaGreatDoor.programRuns
