/- The law SimplexWeights: its Go function returns true for every argument. No condition beside the card's own: the listed variables of the library and of the program lie as the program's text lays them. -/
import Derived.Test.YtgjgpdceghjajaaGreatDoorSimplexWeightsB
import Derived.Test.YtgjgpdceghjajaaGreatDoorRows
import Derived.Test.YtgjgpdceghjajaaGreatDoorCards
import Derived.Test.YtgjgpdceghjajaaGreatDoorTie
import Derived.Test.YtgjgpdceghjajaaGreatDoorSimplexWeightsH7
import Derived.Test.YtgjgpdceghjajaaGreatDoorSimplexWeightsH11
import Derived.WalkKit
import Derived.ProofKit
import Derived.OpenShut
import Derived.Below
import Derived.Carry
import Derived.SizedLaws
import Derived.LaidMore
import Derived.SevenTiedAt
import Derived.Lib.LaidTab
import Derived.Stop.LaidErr
import Derived.Stop.Joined
namespace Go.Proofs.YtgjgpdceghjajaaGreatDoor.simplexWeights
open Go Go.V Go.ChangeShapes Go.WideShapes Go.ChangeAt Go.RowKit
set_option linter.unusedVariables false
theorem over : Rows.SimplexWeightsSaid :=
  OpenClaim.holds_of_wide 4 Tryz.f4 rfl rfl rfl rfl rfl rfl rfl ⟨rfl, rfl, rfl, rfl, rfl⟩ rfl rfl rfl rfl rfl (by kernel_rfl) Tryz.func4 (by kernel_rfl)
    (of_decide_eq_true (by kernel_rfl)) (by unfold Func.isWrapper; first | (rw [if_pos (by decide +kernel)]; kernel_rfl) | (rw [if_neg (by decide +kernel)]; exact ⟨rfl, rfl⟩))
    (fun os started H enc _ => lifted os started H enc)
/-- The given statement. -/
theorem proved : Rows.SimplexWeightsCardSaid :=
  Claim7.holds_tied_plain_at .later [] [.data, .data, .data, .sentinel, .sentinel] true (true, "3659d3df476aff118a57b38d42430822aa97b356f64e26ce887b88da1a2ff7cc") true
    over (fun _ h => by cases h) (by kernel_rfl) (fun _ h => by cases h) simplexWeights_row_tie rfl ⟨rfl, rfl⟩ (by kernel_rfl) rfl
    (fun f fn hf hfn => by
      obtain rfl : f = 4 := Option.some.inj ((show Tryz.prog.funcNamed "verdigris/verdigrislaw11.SimplexWeights" = some 4 by kernel_rfl).symm.trans hf) |>.symm
      obtain rfl : fn = Tryz.f4 := (Option.some.inj (Tryz.func4.symm.trans hfn)).symm
      exact ⟨by kernel_rfl, fun j t ht => by
        rw [Tryz.params4] at ht
        have h3 : t = 25 ∨ t = 35 := by
          rcases j with _ | j
          · simp at ht; subst ht; simp
          rcases j with _ | j
          · simp at ht; subst ht; simp
          simp at ht
        rcases h3 with h3 | h3
        · subst h3; exact (show Tryz.prog.wantsStandIn 25 = false by kernel_rfl)
        · subst h3; exact (show Tryz.prog.wantsStandIn 35 = false by kernel_rfl)⟩)
    (by kernel_rfl)
#print axioms proved
end Go.Proofs.YtgjgpdceghjajaaGreatDoor.simplexWeights
