/-
  DERIVED. GIVEN WITH THE SEED: THE CARDS: each row of YtpkdedncgclblaaGreatDoorRows.lean that lists a variable, with what it lists TIED to the program's text (the seventh form; the later family's looks); each row that meets fmt, with fmt's text TOLD by the authors' own Lean function (tested against real Go, not proved from fmt's source: count such statements apart). THE CARD IS WHAT COUNTS. Prove the row's statement (the work); the ties are given (YtpkdedncgclblaaGreatDoorTie.lean); close each card by the builder's one call (the guide's Derived/Test/ToyasCard.lean, 'card_holds'). Laid BY PROGRAM, IN A SANDBOX (cutbox-door.mjs). By AI agents, Wed Nov 11 2026. No macro, syntax, notation, axiom, sorry.
-/
import Derived.Test.YtpkdedncgclblaaGreatDoorRows
import GoSem.ClaimSeven
namespace Go.Proofs.YtpkdedncgclblaaGreatDoor
namespace Rows

/-- THE TIED CARD OF 'verdigrislaw12.ProgramRules'. -/
def programRulesCard : Claim7 := { stood := { row := programRulesRow, standIns := [], harness := (true, "7f598fa37259e171d750e4ba99dbdeba753864523edc075d9f09ec06e4c900b7"), looks := true }, kinds := [], alts := [], laidByText := true, laidKinds := [.data, .data, .data, .sentinel, .sentinel], laidTests := true, laidLooks := .later }
def ProgramRulesCardSaid : Prop := Claim7.holds Tryz.pinned (.plain (OpenSpec.ofChange programRulesSpec)) programRulesCard

/-- THE TIED CARD OF 'verdigrislaw12.ProgramWithin'. -/
def programWithinCard : Claim7 := { stood := { row := programWithinRow, standIns := [], harness := (true, "7f598fa37259e171d750e4ba99dbdeba753864523edc075d9f09ec06e4c900b7"), looks := true }, kinds := [], alts := [], laidByText := true, laidKinds := [.data, .data, .data, .sentinel, .sentinel], laidTests := true, laidLooks := .later }
def ProgramWithinCardSaid : Prop := Claim7.holds Tryz.pinned (.plain (OpenSpec.ofChange programWithinSpec)) programWithinCard

/-- THE TIED CARD OF 'verdigrislaw12.ProgramRows'. -/
def programRowsCard : Claim7 := { stood := { row := programRowsRow, standIns := [], harness := (true, "7f598fa37259e171d750e4ba99dbdeba753864523edc075d9f09ec06e4c900b7"), looks := true }, kinds := [], alts := [], laidByText := true, laidKinds := [.data, .data, .data, .sentinel, .sentinel], laidTests := true, laidLooks := .later }
def ProgramRowsCardSaid : Prop := Claim7.holds Tryz.pinned (.plain (OpenSpec.ofChange programRowsSpec)) programRowsCard

/-- THE TIED CARD OF 'verdigrislaw12.ProgramPicks'. -/
def programPicksCard : Claim7 := { stood := { row := programPicksRow, standIns := [], harness := (true, "7f598fa37259e171d750e4ba99dbdeba753864523edc075d9f09ec06e4c900b7"), looks := true }, kinds := [], alts := [], laidByText := true, laidKinds := [.data, .data, .data, .sentinel, .sentinel], laidTests := true, laidLooks := .later }
def ProgramPicksCardSaid : Prop := Claim7.holds Tryz.pinned (.plain (OpenSpec.ofChange programPicksSpec)) programPicksCard

/-- THE TIED CARD OF 'verdigrislaw12.ProgramKnown'. -/
def programKnownCard : Claim7 := { stood := { row := programKnownRow, standIns := [], harness := (true, "7f598fa37259e171d750e4ba99dbdeba753864523edc075d9f09ec06e4c900b7"), looks := true }, kinds := [], alts := [], laidByText := true, laidKinds := [.data, .data, .data, .sentinel, .sentinel], laidTests := true, laidLooks := .later }
def ProgramKnownCardSaid : Prop := Claim7.holds Tryz.pinned (.plain (OpenSpec.ofChange programKnownSpec)) programKnownCard

/-- THE TIED CARD OF 'verdigrislaw12.ProgramChecks'. -/
def programChecksCard : Claim7 := { stood := { row := programChecksRow, standIns := [], harness := (true, "7f598fa37259e171d750e4ba99dbdeba753864523edc075d9f09ec06e4c900b7"), looks := true }, kinds := [], alts := [], laidByText := true, laidKinds := [.data, .data, .data, .sentinel, .sentinel], laidTests := true, laidLooks := .later }
def ProgramChecksCardSaid : Prop := Claim7.holds Tryz.pinned (.plain (OpenSpec.ofChange programChecksSpec)) programChecksCard

/-- THE TIED CARD OF 'verdigrislaw12.ProgramRuns'. -/
def programRunsCard : Claim7 := { stood := { row := programRunsRow, standIns := [], harness := (true, "7f598fa37259e171d750e4ba99dbdeba753864523edc075d9f09ec06e4c900b7"), looks := true }, kinds := [], alts := [], laidByText := true, laidKinds := [.data, .data, .data, .sentinel, .sentinel], laidTests := true, laidLooks := .later }
def ProgramRunsCardSaid : Prop := Claim7.holds Tryz.pinned (.plain (OpenSpec.ofChange programRunsSpec)) programRunsCard

/-- THE TIED CARD OF 'verdigrislaw12.ProgramBands'. -/
def programBandsCard : Claim7 := { stood := { row := programBandsRow, standIns := [], harness := (true, "7f598fa37259e171d750e4ba99dbdeba753864523edc075d9f09ec06e4c900b7"), looks := true }, kinds := [], alts := [], laidByText := true, laidKinds := [.data, .data, .data, .sentinel, .sentinel], laidTests := true, laidLooks := .later }
def ProgramBandsCardSaid : Prop := Claim7.holds Tryz.pinned (.plain (OpenSpec.ofChange programBandsSpec)) programBandsCard

/-- THE SECOND FORM's CARD OF 'verdigrislaw12.ProgramRules'. -/
def programRulesUptoCard : Claim7 := { stood := { row := programRulesUptoRow, standIns := [], harness := (true, "7f598fa37259e171d750e4ba99dbdeba753864523edc075d9f09ec06e4c900b7"), looks := true }, kinds := [], alts := [], laidByText := true, laidKinds := [.data, .data, .data, .sentinel, .sentinel], laidTests := true, laidLooks := .later }
def ProgramRulesUptoCardSaid : Prop := Claim7.holds Tryz.pinned (.plain (OpenSpec.upto programRulesSpec)) programRulesUptoCard

/-- THE SECOND FORM's CARD OF 'verdigrislaw12.ProgramWithin'. -/
def programWithinUptoCard : Claim7 := { stood := { row := programWithinUptoRow, standIns := [], harness := (true, "7f598fa37259e171d750e4ba99dbdeba753864523edc075d9f09ec06e4c900b7"), looks := true }, kinds := [], alts := [], laidByText := true, laidKinds := [.data, .data, .data, .sentinel, .sentinel], laidTests := true, laidLooks := .later }
def ProgramWithinUptoCardSaid : Prop := Claim7.holds Tryz.pinned (.plain (OpenSpec.upto programWithinSpec)) programWithinUptoCard

/-- THE SECOND FORM's CARD OF 'verdigrislaw12.ProgramRows'. -/
def programRowsUptoCard : Claim7 := { stood := { row := programRowsUptoRow, standIns := [], harness := (true, "7f598fa37259e171d750e4ba99dbdeba753864523edc075d9f09ec06e4c900b7"), looks := true }, kinds := [], alts := [], laidByText := true, laidKinds := [.data, .data, .data, .sentinel, .sentinel], laidTests := true, laidLooks := .later }
def ProgramRowsUptoCardSaid : Prop := Claim7.holds Tryz.pinned (.plain (OpenSpec.upto programRowsSpec)) programRowsUptoCard

/-- THE SECOND FORM's CARD OF 'verdigrislaw12.ProgramPicks'. -/
def programPicksUptoCard : Claim7 := { stood := { row := programPicksUptoRow, standIns := [], harness := (true, "7f598fa37259e171d750e4ba99dbdeba753864523edc075d9f09ec06e4c900b7"), looks := true }, kinds := [], alts := [], laidByText := true, laidKinds := [.data, .data, .data, .sentinel, .sentinel], laidTests := true, laidLooks := .later }
def ProgramPicksUptoCardSaid : Prop := Claim7.holds Tryz.pinned (.plain (OpenSpec.upto programPicksSpec)) programPicksUptoCard

/-- THE SECOND FORM's CARD OF 'verdigrislaw12.ProgramKnown'. -/
def programKnownUptoCard : Claim7 := { stood := { row := programKnownUptoRow, standIns := [], harness := (true, "7f598fa37259e171d750e4ba99dbdeba753864523edc075d9f09ec06e4c900b7"), looks := true }, kinds := [], alts := [], laidByText := true, laidKinds := [.data, .data, .data, .sentinel, .sentinel], laidTests := true, laidLooks := .later }
def ProgramKnownUptoCardSaid : Prop := Claim7.holds Tryz.pinned (.plain (OpenSpec.upto programKnownSpec)) programKnownUptoCard

/-- THE SECOND FORM's CARD OF 'verdigrislaw12.ProgramChecks'. -/
def programChecksUptoCard : Claim7 := { stood := { row := programChecksUptoRow, standIns := [], harness := (true, "7f598fa37259e171d750e4ba99dbdeba753864523edc075d9f09ec06e4c900b7"), looks := true }, kinds := [], alts := [], laidByText := true, laidKinds := [.data, .data, .data, .sentinel, .sentinel], laidTests := true, laidLooks := .later }
def ProgramChecksUptoCardSaid : Prop := Claim7.holds Tryz.pinned (.plain (OpenSpec.upto programChecksSpec)) programChecksUptoCard

/-- THE SECOND FORM's CARD OF 'verdigrislaw12.ProgramRuns'. -/
def programRunsUptoCard : Claim7 := { stood := { row := programRunsUptoRow, standIns := [], harness := (true, "7f598fa37259e171d750e4ba99dbdeba753864523edc075d9f09ec06e4c900b7"), looks := true }, kinds := [], alts := [], laidByText := true, laidKinds := [.data, .data, .data, .sentinel, .sentinel], laidTests := true, laidLooks := .later }
def ProgramRunsUptoCardSaid : Prop := Claim7.holds Tryz.pinned (.plain (OpenSpec.upto programRunsSpec)) programRunsUptoCard

/-- THE SECOND FORM's CARD OF 'verdigrislaw12.ProgramBands'. -/
def programBandsUptoCard : Claim7 := { stood := { row := programBandsUptoRow, standIns := [], harness := (true, "7f598fa37259e171d750e4ba99dbdeba753864523edc075d9f09ec06e4c900b7"), looks := true }, kinds := [], alts := [], laidByText := true, laidKinds := [.data, .data, .data, .sentinel, .sentinel], laidTests := true, laidLooks := .later }
def ProgramBandsUptoCardSaid : Prop := Claim7.holds Tryz.pinned (.plain (OpenSpec.upto programBandsSpec)) programBandsUptoCard
end Rows
end Go.Proofs.YtpkdedncgclblaaGreatDoor
