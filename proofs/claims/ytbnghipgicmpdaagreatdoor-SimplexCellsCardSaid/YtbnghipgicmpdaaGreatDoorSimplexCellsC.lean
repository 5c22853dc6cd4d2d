/- The row's facts. -/
import Derived.Test.YtbnghipgicmpdaaGreatDoorSimplexCellsB
import Derived.Test.YtbnghipgicmpdaaGreatDoorRows
import Derived.Test.YtbnghipgicmpdaaGreatDoorCards
import Derived.Test.YtbnghipgicmpdaaGreatDoorTie
import Derived.Test.YtbnghipgicmpdaaGreatDoorSimplexCellsH12
import Derived.Test.YtbnghipgicmpdaaGreatDoorSimplexCellsH13
import Derived.WalkKit
import Derived.ProofKit
import Derived.OpenShut
import Derived.Below
import Derived.Carry
import Derived.SizedLaws
import Derived.LaidMore
import Derived.SevenTiedAt
import Derived.Lib.LaidTab
import Derived.Stop.LaidErr
import Derived.Stop.Joined
namespace Go.Proofs.YtbnghipgicmpdaaGreatDoor.simplexCells
open Go Go.V Go.ChangeShapes Go.WideShapes Go.ChangeAt Go.RowKit
set_option linter.unusedVariables false
theorem ja : jA Tryz.prog 3 Tryz.f3 Rows.simplexCellsSpec Rows.simplexCellsRow = true := by kernel_rfl
theorem jb : jB Tryz.prog 3 Tryz.f3 Rows.simplexCellsSpec Rows.simplexCellsRow = true := by kernel_rfl
theorem jc : jC Tryz.prog 3 Tryz.f3 Rows.simplexCellsSpec Rows.simplexCellsRow = true := by kernel_rfl
theorem jd : jD Tryz.prog 3 Tryz.f3 Rows.simplexCellsSpec Rows.simplexCellsRow = true := by kernel_rfl
theorem je : jE Tryz.prog 3 Tryz.f3 Rows.simplexCellsSpec Rows.simplexCellsRow = true := by kernel_rfl
theorem jf : jF Tryz.prog 3 Tryz.f3 Rows.simplexCellsSpec Rows.simplexCellsRow = true := by kernel_rfl
theorem jg : jG Tryz.prog 3 Tryz.f3 Rows.simplexCellsSpec Rows.simplexCellsRow = true := by kernel_rfl
theorem jh : jH Tryz.prog 3 Tryz.f3 Rows.simplexCellsSpec Rows.simplexCellsRow = true := by kernel_rfl
theorem ji : jI Tryz.prog 3 Tryz.f3 Rows.simplexCellsSpec Rows.simplexCellsRow = true := by kernel_rfl
theorem over : Rows.SimplexCellsSaid :=
  OpenClaim.holds_of_wide 3 Tryz.f3 rfl rfl rfl rfl rfl rfl rfl ⟨rfl, rfl, rfl, rfl, rfl⟩ rfl rfl rfl rfl rfl (by kernel_rfl) Tryz.func3 (joined_of ja jb jc jd je jf jg jh ji)
    (of_decide_eq_true (by kernel_rfl)) (by unfold Func.isWrapper; first | (rw [if_pos (by decide +kernel)]; kernel_rfl) | (rw [if_neg (by decide +kernel)]; exact ⟨rfl, rfl⟩))
    (fun os started H enc _ => lifted os started H enc)
end Go.Proofs.YtbnghipgicmpdaaGreatDoor.simplexCells
