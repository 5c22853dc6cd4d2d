/- What the listed variables hold when the function is called. -/
import Derived.Test.YtbnghipgicmpdaaGreatDoorRows
import Derived.Test.YtbnghipgicmpdaaGreatDoorCards
import Derived.Test.YtbnghipgicmpdaaGreatDoorTie
import Derived.Test.YtbnghipgicmpdaaGreatDoorSimplexBandsH9
import Derived.Test.YtbnghipgicmpdaaGreatDoorSimplexBandsH11
import Derived.WalkKit
import Derived.ProofKit
import Derived.OpenShut
import Derived.Below
import Derived.Carry
import Derived.SizedLaws
import Derived.LaidMore
import Derived.SevenTiedAt
import Derived.Lib.LaidTab
import Derived.Stop.LaidErr
import Derived.Stop.Joined
namespace Go.Proofs.YtbnghipgicmpdaaGreatDoor.simplexBands
open Go Go.V Go.ChangeShapes Go.WideShapes Go.ChangeAt Go.RowKit
set_option linter.unusedVariables false
theorem own : ownKnob Tryz.prog.godebug = none := by kernel_rfl
theorem laidOut : laidOutB Tryz.prog = true := by kernel_rfl
def laidL : List (String × DataW Unit) := [("math/bits.deBruijn32tab", Rows.laid_math_bits_deBruijn32tab), ("math/bits.deBruijn64tab", Rows.laid_math_bits_deBruijn64tab), ("internal/strconv.uint64pow10", Rows.laid_internal_strconv_uint64pow10), ("strconv.ErrRange", Rows.laid_strconv_ErrRange), ("strconv.ErrSyntax", Rows.laid_strconv_ErrSyntax)]
/-- The door's own heap meets the condition. -/
theorem door_met (os : Os) (args : Array Value) : laidMetH Tryz.prog laidL ((World.doorLaid Tryz.prog 62 os).forCall (fun _ _ => 0) ⟨#[], args, []⟩).memory :=
  laidMetH_of_parts3 (fuel := 8) (laidMet_of_run' 8 (by kernel_rfl) (by kernel_rfl)) (by kernel_rfl) (by kernel_rfl)
theorem star : "*" ++ "errors.errorString" = "*errors.errorString" := by decide
theorem row_err (u : TypeId) (h : Tryz.prog.typeName? 3 u = some "*errors.errorString") : u = 303 :=
  typeName_ptr_named (nm := "errors.errorString") (by rw [star]; kernel_rfl) (by kernel_rfl) (by decide) u (by rw [star]; exact h)
theorem of_laid {W : World} (h : laidMetH Tryz.prog laidL W) : GlW W := by
  rw [MakeChecks.laidMetH_plain _ _ _ (by kernel_rfl)] at h
  obtain ⟨ea, es, hv, _, _, _⟩ := laid_sentinel (g := 1) (ti := 222) (tp := 303) (te := 305) (ts := 9) h.tail.tail.tail (by kernel_rfl) (by kernel_rfl) Tryz.underlying222 row_err Tryz.underlying303 Tryz.underlying305 rfl rfl Tryz.underlying9 (by kernel_rfl) (by kernel_rfl)
  exact glW_of_tab (Lib.tabIs_of_head (g := 2) (t := 308) (by kernel_rfl) (by kernel_rfl) Tryz.underlying308 Tryz.underlying175 (by kernel_rfl) (by kernel_rfl) h.tail.tail) hv
end Go.Proofs.YtbnghipgicmpdaaGreatDoor.simplexBands
