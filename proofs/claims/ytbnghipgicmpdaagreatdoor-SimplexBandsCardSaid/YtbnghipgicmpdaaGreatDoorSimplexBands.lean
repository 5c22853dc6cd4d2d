/- The law SimplexBands: its Go function returns true for every argument. No condition beside the card's own: the listed variables of the library and of the program lie as the program's text lays them. -/
import Derived.Test.YtbnghipgicmpdaaGreatDoorSimplexBandsC
import Derived.Test.YtbnghipgicmpdaaGreatDoorRows
import Derived.Test.YtbnghipgicmpdaaGreatDoorCards
import Derived.Test.YtbnghipgicmpdaaGreatDoorTie
import Derived.Test.YtbnghipgicmpdaaGreatDoorSimplexBandsH9
import Derived.Test.YtbnghipgicmpdaaGreatDoorSimplexBandsH11
import Derived.WalkKit
import Derived.ProofKit
import Derived.OpenShut
import Derived.Below
import Derived.Carry
import Derived.SizedLaws
import Derived.LaidMore
import Derived.SevenTiedAt
import Derived.Lib.LaidTab
import Derived.Stop.LaidErr
import Derived.Stop.Joined
namespace Go.Proofs.YtbnghipgicmpdaaGreatDoor.simplexBands
open Go Go.V Go.ChangeShapes Go.WideShapes Go.ChangeAt Go.RowKit
set_option linter.unusedVariables false
/-- The given statement. -/
theorem proved : Rows.SimplexBandsCardSaid :=
  Claim7.holds_tied_plain_at .later [] [.data, .data, .data, .sentinel, .sentinel] true (true, "60361fb60a400d6ae7b9c54d47b7f01ac86bf5909821f614e2ce68333227c043") true
    over (fun _ h => by cases h) (by kernel_rfl) (fun _ h => by cases h) simplexBands_row_tie rfl ⟨rfl, rfl⟩ (by kernel_rfl) rfl
    (fun f fn hf hfn => by
      obtain rfl : f = 4 := Option.some.inj ((show Tryz.prog.funcNamed "verdigris/verdigrislaw11.SimplexBands" = some 4 by kernel_rfl).symm.trans hf) |>.symm
      obtain rfl : fn = Tryz.f4 := (Option.some.inj (Tryz.func4.symm.trans hfn)).symm
      exact ⟨by kernel_rfl, fun j t ht => by
        rw [Tryz.params4] at ht
        have h3 : t = 5 ∨ t = 25 ∨ t = 61 ∨ t = 62 := by
          rcases j with _ | j
          · simp at ht; subst ht; simp
          rcases j with _ | j
          · simp at ht; subst ht; simp
          rcases j with _ | j
          · simp at ht; subst ht; simp
          rcases j with _ | j
          · simp at ht; subst ht; simp
          simp at ht
        rcases h3 with h3 | h3 | h3 | h3
        · subst h3; exact (show Tryz.prog.wantsStandIn 5 = false by kernel_rfl)
        · subst h3; exact (show Tryz.prog.wantsStandIn 25 = false by kernel_rfl)
        · subst h3; exact (show Tryz.prog.wantsStandIn 61 = false by kernel_rfl)
        · subst h3; exact (show Tryz.prog.wantsStandIn 62 = false by kernel_rfl)⟩)
    (by kernel_rfl)
#print axioms proved
end Go.Proofs.YtbnghipgicmpdaaGreatDoor.simplexBands
