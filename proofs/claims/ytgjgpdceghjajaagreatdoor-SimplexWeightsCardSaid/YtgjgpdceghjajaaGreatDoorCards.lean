/-
  DERIVED. GIVEN WITH THE SEED: THE CARDS: each row of YtgjgpdceghjajaaGreatDoorRows.lean that lists a variable, with what it lists TIED to the program's text (the seventh form; the later family's looks); each row that meets fmt, with fmt's text TOLD by the authors' own Lean function (tested against real Go, not proved from fmt's source: count such statements apart). THE CARD IS WHAT COUNTS. Prove the row's statement (the work); the ties are given (YtgjgpdceghjajaaGreatDoorTie.lean); close each card by the builder's one call (the guide's Derived/Test/ToyasCard.lean, 'card_holds'). Laid BY PROGRAM, IN A SANDBOX (cutbox-door.mjs). By AI agents, Wed Nov 11 2026. No macro, syntax, notation, axiom, sorry.
-/
import Derived.Test.YtgjgpdceghjajaaGreatDoorRows
import GoSem.ClaimSeven
namespace Go.Proofs.YtgjgpdceghjajaaGreatDoor
namespace Rows

/-- THE TIED CARD OF 'verdigrislaw11.SimplexSwaps'. -/
def simplexSwapsCard : Claim7 := { stood := { row := simplexSwapsRow, standIns := [], harness := (true, "3659d3df476aff118a57b38d42430822aa97b356f64e26ce887b88da1a2ff7cc"), looks := true }, kinds := [], alts := [], laidByText := true, laidKinds := [.data, .data, .data, .sentinel, .sentinel], laidTests := true, laidLooks := .later }
def SimplexSwapsCardSaid : Prop := Claim7.holds Tryz.pinned (.plain (OpenSpec.ofChange simplexSwapsSpec)) simplexSwapsCard

/-- THE TIED CARD OF 'verdigrislaw11.SimplexWeights'. -/
def simplexWeightsCard : Claim7 := { stood := { row := simplexWeightsRow, standIns := [], harness := (true, "3659d3df476aff118a57b38d42430822aa97b356f64e26ce887b88da1a2ff7cc"), looks := true }, kinds := [], alts := [], laidByText := true, laidKinds := [.data, .data, .data, .sentinel, .sentinel], laidTests := true, laidLooks := .later }
def SimplexWeightsCardSaid : Prop := Claim7.holds Tryz.pinned (.plain (OpenSpec.ofChange simplexWeightsSpec)) simplexWeightsCard

/-- THE TIED CARD OF 'verdigrislaw11.SimplexCorners'. -/
def simplexCornersCard : Claim7 := { stood := { row := simplexCornersRow, standIns := [], harness := (true, "3659d3df476aff118a57b38d42430822aa97b356f64e26ce887b88da1a2ff7cc"), looks := true }, kinds := [], alts := [], laidByText := true, laidKinds := [.data, .data, .data, .sentinel, .sentinel], laidTests := true, laidLooks := .later }
def SimplexCornersCardSaid : Prop := Claim7.holds Tryz.pinned (.plain (OpenSpec.ofChange simplexCornersSpec)) simplexCornersCard

/-- THE TIED CARD OF 'verdigrislaw11.SimplexLinear'. -/
def simplexLinearCard : Claim7 := { stood := { row := simplexLinearRow, standIns := [], harness := (true, "3659d3df476aff118a57b38d42430822aa97b356f64e26ce887b88da1a2ff7cc"), looks := true }, kinds := [], alts := [], laidByText := true, laidKinds := [.data, .data, .data, .sentinel, .sentinel], laidTests := true, laidLooks := .later }
def SimplexLinearCardSaid : Prop := Claim7.holds Tryz.pinned (.plain (OpenSpec.ofChange simplexLinearSpec)) simplexLinearCard

/-- THE TIED CARD OF 'verdigrislaw11.SimplexWithin'. -/
def simplexWithinCard : Claim7 := { stood := { row := simplexWithinRow, standIns := [], harness := (true, "3659d3df476aff118a57b38d42430822aa97b356f64e26ce887b88da1a2ff7cc"), looks := true }, kinds := [], alts := [], laidByText := true, laidKinds := [.data, .data, .data, .sentinel, .sentinel], laidTests := true, laidLooks := .later }
def SimplexWithinCardSaid : Prop := Claim7.holds Tryz.pinned (.plain (OpenSpec.ofChange simplexWithinSpec)) simplexWithinCard

/-- THE TIED CARD OF 'verdigrislaw11.SimplexKnown'. -/
def simplexKnownCard : Claim7 := { stood := { row := simplexKnownRow, standIns := [], harness := (true, "3659d3df476aff118a57b38d42430822aa97b356f64e26ce887b88da1a2ff7cc"), looks := true }, kinds := [], alts := [], laidByText := true, laidKinds := [.data, .data, .data, .sentinel, .sentinel], laidTests := true, laidLooks := .later }
def SimplexKnownCardSaid : Prop := Claim7.holds Tryz.pinned (.plain (OpenSpec.ofChange simplexKnownSpec)) simplexKnownCard

/-- THE TIED CARD OF 'verdigrislaw11.SimplexRefined'. -/
def simplexRefinedCard : Claim7 := { stood := { row := simplexRefinedRow, standIns := [], harness := (true, "3659d3df476aff118a57b38d42430822aa97b356f64e26ce887b88da1a2ff7cc"), looks := true }, kinds := [], alts := [], laidByText := true, laidKinds := [.data, .data, .data, .sentinel, .sentinel], laidTests := true, laidLooks := .later }
def SimplexRefinedCardSaid : Prop := Claim7.holds Tryz.pinned (.plain (OpenSpec.ofChange simplexRefinedSpec)) simplexRefinedCard

/-- THE SECOND FORM's CARD OF 'verdigrislaw11.SimplexSwaps'. -/
def simplexSwapsUptoCard : Claim7 := { stood := { row := simplexSwapsUptoRow, standIns := [], harness := (true, "3659d3df476aff118a57b38d42430822aa97b356f64e26ce887b88da1a2ff7cc"), looks := true }, kinds := [], alts := [], laidByText := true, laidKinds := [.data, .data, .data, .sentinel, .sentinel], laidTests := true, laidLooks := .later }
def SimplexSwapsUptoCardSaid : Prop := Claim7.holds Tryz.pinned (.plain (OpenSpec.upto simplexSwapsSpec)) simplexSwapsUptoCard

/-- THE SECOND FORM's CARD OF 'verdigrislaw11.SimplexWeights'. -/
def simplexWeightsUptoCard : Claim7 := { stood := { row := simplexWeightsUptoRow, standIns := [], harness := (true, "3659d3df476aff118a57b38d42430822aa97b356f64e26ce887b88da1a2ff7cc"), looks := true }, kinds := [], alts := [], laidByText := true, laidKinds := [.data, .data, .data, .sentinel, .sentinel], laidTests := true, laidLooks := .later }
def SimplexWeightsUptoCardSaid : Prop := Claim7.holds Tryz.pinned (.plain (OpenSpec.upto simplexWeightsSpec)) simplexWeightsUptoCard

/-- THE SECOND FORM's CARD OF 'verdigrislaw11.SimplexCorners'. -/
def simplexCornersUptoCard : Claim7 := { stood := { row := simplexCornersUptoRow, standIns := [], harness := (true, "3659d3df476aff118a57b38d42430822aa97b356f64e26ce887b88da1a2ff7cc"), looks := true }, kinds := [], alts := [], laidByText := true, laidKinds := [.data, .data, .data, .sentinel, .sentinel], laidTests := true, laidLooks := .later }
def SimplexCornersUptoCardSaid : Prop := Claim7.holds Tryz.pinned (.plain (OpenSpec.upto simplexCornersSpec)) simplexCornersUptoCard

/-- THE SECOND FORM's CARD OF 'verdigrislaw11.SimplexLinear'. -/
def simplexLinearUptoCard : Claim7 := { stood := { row := simplexLinearUptoRow, standIns := [], harness := (true, "3659d3df476aff118a57b38d42430822aa97b356f64e26ce887b88da1a2ff7cc"), looks := true }, kinds := [], alts := [], laidByText := true, laidKinds := [.data, .data, .data, .sentinel, .sentinel], laidTests := true, laidLooks := .later }
def SimplexLinearUptoCardSaid : Prop := Claim7.holds Tryz.pinned (.plain (OpenSpec.upto simplexLinearSpec)) simplexLinearUptoCard

/-- THE SECOND FORM's CARD OF 'verdigrislaw11.SimplexWithin'. -/
def simplexWithinUptoCard : Claim7 := { stood := { row := simplexWithinUptoRow, standIns := [], harness := (true, "3659d3df476aff118a57b38d42430822aa97b356f64e26ce887b88da1a2ff7cc"), looks := true }, kinds := [], alts := [], laidByText := true, laidKinds := [.data, .data, .data, .sentinel, .sentinel], laidTests := true, laidLooks := .later }
def SimplexWithinUptoCardSaid : Prop := Claim7.holds Tryz.pinned (.plain (OpenSpec.upto simplexWithinSpec)) simplexWithinUptoCard

/-- THE SECOND FORM's CARD OF 'verdigrislaw11.SimplexKnown'. -/
def simplexKnownUptoCard : Claim7 := { stood := { row := simplexKnownUptoRow, standIns := [], harness := (true, "3659d3df476aff118a57b38d42430822aa97b356f64e26ce887b88da1a2ff7cc"), looks := true }, kinds := [], alts := [], laidByText := true, laidKinds := [.data, .data, .data, .sentinel, .sentinel], laidTests := true, laidLooks := .later }
def SimplexKnownUptoCardSaid : Prop := Claim7.holds Tryz.pinned (.plain (OpenSpec.upto simplexKnownSpec)) simplexKnownUptoCard

/-- THE SECOND FORM's CARD OF 'verdigrislaw11.SimplexRefined'. -/
def simplexRefinedUptoCard : Claim7 := { stood := { row := simplexRefinedUptoRow, standIns := [], harness := (true, "3659d3df476aff118a57b38d42430822aa97b356f64e26ce887b88da1a2ff7cc"), looks := true }, kinds := [], alts := [], laidByText := true, laidKinds := [.data, .data, .data, .sentinel, .sentinel], laidTests := true, laidLooks := .later }
def SimplexRefinedUptoCardSaid : Prop := Claim7.holds Tryz.pinned (.plain (OpenSpec.upto simplexRefinedSpec)) simplexRefinedUptoCard
end Rows
end Go.Proofs.YtgjgpdceghjajaaGreatDoor
