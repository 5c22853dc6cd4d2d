/-
  DERIVED. GIVEN WITH THE SEED: THE CARDS: each row of YtlcaefokcnohnaaGreatDoorRows.lean that lists a variable, with what it lists TIED to the program's text (the seventh form; the later family's looks); each row that meets fmt, with fmt's text TOLD by the authors' own Lean function (tested against real Go, not proved from fmt's source: count such statements apart). THE CARD IS WHAT COUNTS. Prove the row's statement (the work); the ties are given (YtlcaefokcnohnaaGreatDoorTie.lean); close each card by the builder's one call (the guide's Derived/Test/ToyasCard.lean, 'card_holds'). Laid BY PROGRAM, IN A SANDBOX (cutbox-door.mjs). By AI agents, Wed Nov 11 2026. No macro, syntax, notation, axiom, sorry.
-/
import Derived.Test.YtlcaefokcnohnaaGreatDoorRows
import GoSem.ClaimSeven
namespace Go.Proofs.YtlcaefokcnohnaaGreatDoor
namespace Rows

/-- THE TIED CARD OF 'verdigrislaw22.LocateFinds'. -/
def locateFindsCard : Claim7 := { stood := { row := locateFindsRow, standIns := [], harness := (true, "256a32793541c4432ca79d9b5c2b5e8ff5b9dcc59d68d658ba7239d9e1e90bfd"), looks := false }, kinds := [], alts := [], laidByText := true, laidKinds := [.data, .data, .data, .data], laidTests := true, laidLooks := .later }
def LocateFindsCardSaid : Prop := Claim7.holds Tryz.pinned (.plain (OpenSpec.ofChange locateFindsSpec)) locateFindsCard

/-- THE SECOND FORM's CARD OF 'verdigrislaw22.LocateFinds'. -/
def locateFindsUptoCard : Claim7 := { stood := { row := locateFindsUptoRow, standIns := [], harness := (true, "256a32793541c4432ca79d9b5c2b5e8ff5b9dcc59d68d658ba7239d9e1e90bfd"), looks := false }, kinds := [], alts := [], laidByText := true, laidKinds := [.data, .data, .data, .data], laidTests := true, laidLooks := .later }
def LocateFindsUptoCardSaid : Prop := Claim7.holds Tryz.pinned (.plain (OpenSpec.upto locateFindsSpec)) locateFindsUptoCard
end Rows
end Go.Proofs.YtlcaefokcnohnaaGreatDoor
