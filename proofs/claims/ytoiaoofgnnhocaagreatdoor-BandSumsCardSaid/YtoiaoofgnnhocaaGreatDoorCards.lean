/-
  DERIVED. GIVEN WITH THE SEED: THE CARDS: each row of YtoiaoofgnnhocaaGreatDoorRows.lean that lists a variable, with what it lists TIED to the program's text (the seventh form; the later family's looks); each row that meets fmt, with fmt's text TOLD by the authors' own Lean function (tested against real Go, not proved from fmt's source: count such statements apart). THE CARD IS WHAT COUNTS. Prove the row's statement (the work); the ties are given (YtoiaoofgnnhocaaGreatDoorTie.lean); close each card by the builder's one call (the guide's Derived/Test/ToyasCard.lean, 'card_holds'). Laid BY PROGRAM, IN A SANDBOX (cutbox-door.mjs). By AI agents, Wed Nov 11 2026. No macro, syntax, notation, axiom, sorry.
-/
import Derived.Test.YtoiaoofgnnhocaaGreatDoorRows
import GoSem.ClaimSeven
namespace Go.Proofs.YtoiaoofgnnhocaaGreatDoor
namespace Rows

/-- THE TIED CARD OF 'verdigrislaw03.BandSums'. -/
def bandSumsCard : Claim7 := { stood := { row := bandSumsRow, standIns := [], harness := (true, "f0ff5bb5fc0ef7ae6d2a06731dcdc5b4ce159f94f3833f59ba4c149f33a56687"), looks := true }, kinds := [], alts := [], laidByText := true, laidKinds := [.data, .data, .data, .sentinel, .sentinel], laidTests := true, laidLooks := .later }
def BandSumsCardSaid : Prop := Claim7.holds Tryz.pinned (.plain (OpenSpec.ofChange bandSumsSpec)) bandSumsCard

/-- THE TIED CARD OF 'verdigrislaw03.BandOrders'. -/
def bandOrdersCard : Claim7 := { stood := { row := bandOrdersRow, standIns := [], harness := (true, "f0ff5bb5fc0ef7ae6d2a06731dcdc5b4ce159f94f3833f59ba4c149f33a56687"), looks := true }, kinds := [], alts := [], laidByText := true, laidKinds := [.data, .data, .data, .sentinel, .sentinel], laidTests := true, laidLooks := .later }
def BandOrdersCardSaid : Prop := Claim7.holds Tryz.pinned (.plain (OpenSpec.ofChange bandOrdersSpec)) bandOrdersCard

/-- THE TIED CARD OF 'verdigrislaw03.BandClamps'. -/
def bandClampsCard : Claim7 := { stood := { row := bandClampsRow, standIns := [], harness := (true, "f0ff5bb5fc0ef7ae6d2a06731dcdc5b4ce159f94f3833f59ba4c149f33a56687"), looks := true }, kinds := [], alts := [], laidByText := true, laidKinds := [.data, .data, .data, .sentinel, .sentinel], laidTests := true, laidLooks := .later }
def BandClampsCardSaid : Prop := Claim7.holds Tryz.pinned (.plain (OpenSpec.ofChange bandClampsSpec)) bandClampsCard

/-- THE TIED CARD OF 'verdigrislaw03.BandShrinks'. -/
def bandShrinksCard : Claim7 := { stood := { row := bandShrinksRow, standIns := [], harness := (true, "f0ff5bb5fc0ef7ae6d2a06731dcdc5b4ce159f94f3833f59ba4c149f33a56687"), looks := true }, kinds := [], alts := [], laidByText := true, laidKinds := [.data, .data, .data, .sentinel, .sentinel], laidTests := true, laidLooks := .later }
def BandShrinksCardSaid : Prop := Claim7.holds Tryz.pinned (.plain (OpenSpec.ofChange bandShrinksSpec)) bandShrinksCard

/-- THE SECOND FORM's CARD OF 'verdigrislaw03.BandSums'. -/
def bandSumsUptoCard : Claim7 := { stood := { row := bandSumsUptoRow, standIns := [], harness := (true, "f0ff5bb5fc0ef7ae6d2a06731dcdc5b4ce159f94f3833f59ba4c149f33a56687"), looks := true }, kinds := [], alts := [], laidByText := true, laidKinds := [.data, .data, .data, .sentinel, .sentinel], laidTests := true, laidLooks := .later }
def BandSumsUptoCardSaid : Prop := Claim7.holds Tryz.pinned (.plain (OpenSpec.upto bandSumsSpec)) bandSumsUptoCard

/-- THE SECOND FORM's CARD OF 'verdigrislaw03.BandOrders'. -/
def bandOrdersUptoCard : Claim7 := { stood := { row := bandOrdersUptoRow, standIns := [], harness := (true, "f0ff5bb5fc0ef7ae6d2a06731dcdc5b4ce159f94f3833f59ba4c149f33a56687"), looks := true }, kinds := [], alts := [], laidByText := true, laidKinds := [.data, .data, .data, .sentinel, .sentinel], laidTests := true, laidLooks := .later }
def BandOrdersUptoCardSaid : Prop := Claim7.holds Tryz.pinned (.plain (OpenSpec.upto bandOrdersSpec)) bandOrdersUptoCard

/-- THE SECOND FORM's CARD OF 'verdigrislaw03.BandClamps'. -/
def bandClampsUptoCard : Claim7 := { stood := { row := bandClampsUptoRow, standIns := [], harness := (true, "f0ff5bb5fc0ef7ae6d2a06731dcdc5b4ce159f94f3833f59ba4c149f33a56687"), looks := true }, kinds := [], alts := [], laidByText := true, laidKinds := [.data, .data, .data, .sentinel, .sentinel], laidTests := true, laidLooks := .later }
def BandClampsUptoCardSaid : Prop := Claim7.holds Tryz.pinned (.plain (OpenSpec.upto bandClampsSpec)) bandClampsUptoCard

/-- THE SECOND FORM's CARD OF 'verdigrislaw03.BandShrinks'. -/
def bandShrinksUptoCard : Claim7 := { stood := { row := bandShrinksUptoRow, standIns := [], harness := (true, "f0ff5bb5fc0ef7ae6d2a06731dcdc5b4ce159f94f3833f59ba4c149f33a56687"), looks := true }, kinds := [], alts := [], laidByText := true, laidKinds := [.data, .data, .data, .sentinel, .sentinel], laidTests := true, laidLooks := .later }
def BandShrinksUptoCardSaid : Prop := Claim7.holds Tryz.pinned (.plain (OpenSpec.upto bandShrinksSpec)) bandShrinksUptoCard
end Rows
end Go.Proofs.YtoiaoofgnnhocaaGreatDoor
