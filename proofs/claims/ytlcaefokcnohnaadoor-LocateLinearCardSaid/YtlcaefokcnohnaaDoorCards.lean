/-
  DERIVED. GIVEN WITH THE SEED: THE CARDS: each row of YtlcaefokcnohnaaDoorRows.lean that lists a variable, with what it lists TIED to the program's text (the seventh form; the later family's looks); each row that meets fmt, with fmt's text TOLD by the authors' own Lean function (tested against real Go, not proved from fmt's source: count such statements apart). THE CARD IS WHAT COUNTS. Prove the row's statement (the work); the ties are given (YtlcaefokcnohnaaDoorTie.lean); close each card by the builder's one call (the guide's Derived/Test/ToyasCard.lean, 'card_holds'). Laid BY PROGRAM, IN A SANDBOX (cutbox-door.mjs). By AI agents, Wed Nov 11 2026. No macro, syntax, notation, axiom, sorry.
-/
import Derived.Test.YtlcaefokcnohnaaDoorRows
import GoSem.ClaimSeven
namespace Go.Proofs.YtlcaefokcnohnaaDoor
namespace Rows

/-- THE TIED CARD OF 'verdigrislaw22.LocateKnown'. -/
def locateKnownCard : Claim7 := { stood := { row := locateKnownRow, standIns := [], harness := (true, "6f495992b373c2665e50c4ad40441773abac20404096db6504d332fe4c8f76be"), looks := false }, kinds := [], alts := [], laidByText := true, laidKinds := [.data, .data, .data, .data], laidTests := true, laidLooks := .later }
def LocateKnownCardSaid : Prop := Claim7.holds Tryd.pinned (.plain (OpenSpec.ofChange locateKnownSpec)) locateKnownCard

/-- THE TIED CARD OF 'verdigrislaw22.LocateLinear'. -/
def locateLinearCard : Claim7 := { stood := { row := locateLinearRow, standIns := [], harness := (true, "6f495992b373c2665e50c4ad40441773abac20404096db6504d332fe4c8f76be"), looks := false }, kinds := [], alts := [], laidByText := true, laidKinds := [.data, .data, .data, .data], laidTests := true, laidLooks := .later }
def LocateLinearCardSaid : Prop := Claim7.holds Tryd.pinned (.plain (OpenSpec.ofChange locateLinearSpec)) locateLinearCard

/-- THE TIED CARD OF 'verdigrislaw22.LocateNodes'. -/
def locateNodesCard : Claim7 := { stood := { row := locateNodesRow, standIns := [], harness := (true, "6f495992b373c2665e50c4ad40441773abac20404096db6504d332fe4c8f76be"), looks := false }, kinds := [], alts := [], laidByText := true, laidKinds := [.data, .data, .data, .data], laidTests := true, laidLooks := .later }
def LocateNodesCardSaid : Prop := Claim7.holds Tryd.pinned (.plain (OpenSpec.ofChange locateNodesSpec)) locateNodesCard

/-- THE SECOND FORM's CARD OF 'verdigrislaw22.LocateKnown'. -/
def locateKnownUptoCard : Claim7 := { stood := { row := locateKnownUptoRow, standIns := [], harness := (true, "6f495992b373c2665e50c4ad40441773abac20404096db6504d332fe4c8f76be"), looks := false }, kinds := [], alts := [], laidByText := true, laidKinds := [.data, .data, .data, .data], laidTests := true, laidLooks := .later }
def LocateKnownUptoCardSaid : Prop := Claim7.holds Tryd.pinned (.plain (OpenSpec.upto locateKnownSpec)) locateKnownUptoCard

/-- THE SECOND FORM's CARD OF 'verdigrislaw22.LocateLinear'. -/
def locateLinearUptoCard : Claim7 := { stood := { row := locateLinearUptoRow, standIns := [], harness := (true, "6f495992b373c2665e50c4ad40441773abac20404096db6504d332fe4c8f76be"), looks := false }, kinds := [], alts := [], laidByText := true, laidKinds := [.data, .data, .data, .data], laidTests := true, laidLooks := .later }
def LocateLinearUptoCardSaid : Prop := Claim7.holds Tryd.pinned (.plain (OpenSpec.upto locateLinearSpec)) locateLinearUptoCard

/-- THE SECOND FORM's CARD OF 'verdigrislaw22.LocateNodes'. -/
def locateNodesUptoCard : Claim7 := { stood := { row := locateNodesUptoRow, standIns := [], harness := (true, "6f495992b373c2665e50c4ad40441773abac20404096db6504d332fe4c8f76be"), looks := false }, kinds := [], alts := [], laidByText := true, laidKinds := [.data, .data, .data, .data], laidTests := true, laidLooks := .later }
def LocateNodesUptoCardSaid : Prop := Claim7.holds Tryd.pinned (.plain (OpenSpec.upto locateNodesSpec)) locateNodesUptoCard
end Rows
end Go.Proofs.YtlcaefokcnohnaaDoor
