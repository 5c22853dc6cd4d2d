/-
  DERIVED. GIVEN WITH THE SEED: THE CARDS: each row of YtbnghipgicmpdaaGreatDoorRows.lean that lists a variable, with what it lists TIED to the program's text (the seventh form; the later family's looks); each row that meets fmt, with fmt's text TOLD by the authors' own Lean function (tested against real Go, not proved from fmt's source: count such statements apart). THE CARD IS WHAT COUNTS. Prove the row's statement (the work); the ties are given (YtbnghipgicmpdaaGreatDoorTie.lean); close each card by the builder's one call (the guide's Derived/Test/ToyasCard.lean, 'card_holds'). Laid BY PROGRAM, IN A SANDBOX (cutbox-door.mjs). By AI agents, Wed Nov 11 2026. No macro, syntax, notation, axiom, sorry.
-/
import Derived.Test.YtbnghipgicmpdaaGreatDoorRows
import GoSem.ClaimSeven
namespace Go.Proofs.YtbnghipgicmpdaaGreatDoor
namespace Rows

/-- THE TIED CARD OF 'verdigrislaw11.SimplexCells'. -/
def simplexCellsCard : Claim7 := { stood := { row := simplexCellsRow, standIns := [], harness := (true, "60361fb60a400d6ae7b9c54d47b7f01ac86bf5909821f614e2ce68333227c043"), looks := true }, kinds := [], alts := [], laidByText := true, laidKinds := [.data, .data, .data, .sentinel, .sentinel], laidTests := true, laidLooks := .later }
def SimplexCellsCardSaid : Prop := Claim7.holds Tryz.pinned (.plain (OpenSpec.ofChange simplexCellsSpec)) simplexCellsCard

/-- THE TIED CARD OF 'verdigrislaw11.SimplexBands'. -/
def simplexBandsCard : Claim7 := { stood := { row := simplexBandsRow, standIns := [], harness := (true, "60361fb60a400d6ae7b9c54d47b7f01ac86bf5909821f614e2ce68333227c043"), looks := true }, kinds := [], alts := [], laidByText := true, laidKinds := [.data, .data, .data, .sentinel, .sentinel], laidTests := true, laidLooks := .later }
def SimplexBandsCardSaid : Prop := Claim7.holds Tryz.pinned (.plain (OpenSpec.ofChange simplexBandsSpec)) simplexBandsCard

/-- THE TIED CARD OF 'verdigrislaw11.SimplexRefines'. -/
def simplexRefinesCard : Claim7 := { stood := { row := simplexRefinesRow, standIns := [], harness := (true, "60361fb60a400d6ae7b9c54d47b7f01ac86bf5909821f614e2ce68333227c043"), looks := true }, kinds := [], alts := [], laidByText := true, laidKinds := [.data, .data, .data, .sentinel, .sentinel], laidTests := true, laidLooks := .later }
def SimplexRefinesCardSaid : Prop := Claim7.holds Tryz.pinned (.plain (OpenSpec.ofChange simplexRefinesSpec)) simplexRefinesCard

/-- THE SECOND FORM's CARD OF 'verdigrislaw11.SimplexCells'. -/
def simplexCellsUptoCard : Claim7 := { stood := { row := simplexCellsUptoRow, standIns := [], harness := (true, "60361fb60a400d6ae7b9c54d47b7f01ac86bf5909821f614e2ce68333227c043"), looks := true }, kinds := [], alts := [], laidByText := true, laidKinds := [.data, .data, .data, .sentinel, .sentinel], laidTests := true, laidLooks := .later }
def SimplexCellsUptoCardSaid : Prop := Claim7.holds Tryz.pinned (.plain (OpenSpec.upto simplexCellsSpec)) simplexCellsUptoCard

/-- THE SECOND FORM's CARD OF 'verdigrislaw11.SimplexBands'. -/
def simplexBandsUptoCard : Claim7 := { stood := { row := simplexBandsUptoRow, standIns := [], harness := (true, "60361fb60a400d6ae7b9c54d47b7f01ac86bf5909821f614e2ce68333227c043"), looks := true }, kinds := [], alts := [], laidByText := true, laidKinds := [.data, .data, .data, .sentinel, .sentinel], laidTests := true, laidLooks := .later }
def SimplexBandsUptoCardSaid : Prop := Claim7.holds Tryz.pinned (.plain (OpenSpec.upto simplexBandsSpec)) simplexBandsUptoCard

/-- THE SECOND FORM's CARD OF 'verdigrislaw11.SimplexRefines'. -/
def simplexRefinesUptoCard : Claim7 := { stood := { row := simplexRefinesUptoRow, standIns := [], harness := (true, "60361fb60a400d6ae7b9c54d47b7f01ac86bf5909821f614e2ce68333227c043"), looks := true }, kinds := [], alts := [], laidByText := true, laidKinds := [.data, .data, .data, .sentinel, .sentinel], laidTests := true, laidLooks := .later }
def SimplexRefinesUptoCardSaid : Prop := Claim7.holds Tryz.pinned (.plain (OpenSpec.upto simplexRefinesSpec)) simplexRefinesUptoCard
end Rows
end Go.Proofs.YtbnghipgicmpdaaGreatDoor
