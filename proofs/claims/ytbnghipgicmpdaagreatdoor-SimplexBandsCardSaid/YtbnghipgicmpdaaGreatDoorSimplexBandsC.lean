/- The row's facts. -/
import Derived.Test.YtbnghipgicmpdaaGreatDoorSimplexBandsB
import Derived.Test.YtbnghipgicmpdaaGreatDoorRows
import Derived.Test.YtbnghipgicmpdaaGreatDoorCards
import Derived.Test.YtbnghipgicmpdaaGreatDoorTie
import Derived.Test.YtbnghipgicmpdaaGreatDoorSimplexBandsH9
import Derived.Test.YtbnghipgicmpdaaGreatDoorSimplexBandsH11
import Derived.WalkKit
import Derived.ProofKit
import Derived.OpenShut
import Derived.Below
import Derived.Carry
import Derived.SizedLaws
import Derived.LaidMore
import Derived.SevenTiedAt
import Derived.Lib.LaidTab
import Derived.Stop.LaidErr
import Derived.Stop.Joined
namespace Go.Proofs.YtbnghipgicmpdaaGreatDoor.simplexBands
open Go Go.V Go.ChangeShapes Go.WideShapes Go.ChangeAt Go.RowKit
set_option linter.unusedVariables false
theorem ja : jA Tryz.prog 4 Tryz.f4 Rows.simplexBandsSpec Rows.simplexBandsRow = true := by kernel_rfl
theorem jb : jB Tryz.prog 4 Tryz.f4 Rows.simplexBandsSpec Rows.simplexBandsRow = true := by kernel_rfl
theorem jc : jC Tryz.prog 4 Tryz.f4 Rows.simplexBandsSpec Rows.simplexBandsRow = true := by kernel_rfl
theorem jd : jD Tryz.prog 4 Tryz.f4 Rows.simplexBandsSpec Rows.simplexBandsRow = true := by kernel_rfl
theorem je : jE Tryz.prog 4 Tryz.f4 Rows.simplexBandsSpec Rows.simplexBandsRow = true := by kernel_rfl
theorem jf : jF Tryz.prog 4 Tryz.f4 Rows.simplexBandsSpec Rows.simplexBandsRow = true := by kernel_rfl
theorem jg : jG Tryz.prog 4 Tryz.f4 Rows.simplexBandsSpec Rows.simplexBandsRow = true := by kernel_rfl
theorem jh : jH Tryz.prog 4 Tryz.f4 Rows.simplexBandsSpec Rows.simplexBandsRow = true := by kernel_rfl
theorem ji : jI Tryz.prog 4 Tryz.f4 Rows.simplexBandsSpec Rows.simplexBandsRow = true := by kernel_rfl
theorem over : Rows.SimplexBandsSaid :=
  OpenClaim.holds_of_wide 4 Tryz.f4 rfl rfl rfl rfl rfl rfl rfl ⟨rfl, rfl, rfl, rfl, rfl⟩ rfl rfl rfl rfl rfl (by kernel_rfl) Tryz.func4 (joined_of ja jb jc jd je jf jg jh ji)
    (of_decide_eq_true (by kernel_rfl)) (by unfold Func.isWrapper; first | (rw [if_pos (by decide +kernel)]; kernel_rfl) | (rw [if_neg (by decide +kernel)]; exact ⟨rfl, rfl⟩))
    (fun os started H enc _ => lifted os started H enc)
end Go.Proofs.YtbnghipgicmpdaaGreatDoor.simplexBands
