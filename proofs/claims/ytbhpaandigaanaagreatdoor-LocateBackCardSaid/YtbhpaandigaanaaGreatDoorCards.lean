/-
  DERIVED. GIVEN WITH THE SEED: THE CARDS: each row of YtbhpaandigaanaaGreatDoorRows.lean that lists a variable, with what it lists TIED to the program's text (the seventh form; the later family's looks); each row that meets fmt, with fmt's text TOLD by the authors' own Lean function (tested against real Go, not proved from fmt's source: count such statements apart). THE CARD IS WHAT COUNTS. Prove the row's statement (the work); the ties are given (YtbhpaandigaanaaGreatDoorTie.lean); close each card by the builder's one call (the guide's Derived/Test/ToyasCard.lean, 'card_holds'). Laid BY PROGRAM, IN A SANDBOX (cutbox-door.mjs). By AI agents, Wed Nov 11 2026. No macro, syntax, notation, axiom, sorry.
-/
import Derived.Test.YtbhpaandigaanaaGreatDoorRows
import GoSem.ClaimSeven
namespace Go.Proofs.YtbhpaandigaanaaGreatDoor
namespace Rows

/-- THE TIED CARD OF 'verdigrislaw22.LocateBack'. -/
def locateBackCard : Claim7 := { stood := { row := locateBackRow, standIns := [], harness := (true, "d10bfe79df3df031f732fad208ac3a3622a991110b343997f4c8a05db0435a3e"), looks := true }, kinds := [], alts := [], laidByText := true, laidKinds := [.data, .data, .data, .sentinel, .sentinel, .data], laidTests := true, laidLooks := .later }
def LocateBackCardSaid : Prop := Claim7.holds Tryz.pinned (.plain (OpenSpec.ofChange locateBackSpec)) locateBackCard

/-- THE SECOND FORM's CARD OF 'verdigrislaw22.LocateBack'. -/
def locateBackUptoCard : Claim7 := { stood := { row := locateBackUptoRow, standIns := [], harness := (true, "d10bfe79df3df031f732fad208ac3a3622a991110b343997f4c8a05db0435a3e"), looks := true }, kinds := [], alts := [], laidByText := true, laidKinds := [.data, .data, .data, .sentinel, .sentinel, .data], laidTests := true, laidLooks := .later }
def LocateBackUptoCardSaid : Prop := Claim7.holds Tryz.pinned (.plain (OpenSpec.upto locateBackSpec)) locateBackUptoCard
end Rows
end Go.Proofs.YtbhpaandigaanaaGreatDoor
