/-
  DERIVED. GIVEN WITH THE SEED: THE CARDS: each row of YtplflfnfodghmaaGreatDoorRows.lean that lists a variable, with what it lists TIED to the program's text (the seventh form; the later family's looks); each row that meets fmt, with fmt's text TOLD by the authors' own Lean function (tested against real Go, not proved from fmt's source: count such statements apart). THE CARD IS WHAT COUNTS. Prove the row's statement (the work); the ties are given (YtplflfnfodghmaaGreatDoorTie.lean); close each card by the builder's one call (the guide's Derived/Test/ToyasCard.lean, 'card_holds'). Laid BY PROGRAM, IN A SANDBOX (cutbox-door.mjs). By AI agents, Wed Nov 11 2026. No macro, syntax, notation, axiom, sorry.
-/
import Derived.Test.YtplflfnfodghmaaGreatDoorRows
import GoSem.ClaimSeven
namespace Go.Proofs.YtplflfnfodghmaaGreatDoor
namespace Rows

/-- THE TIED CARD OF 'verdigrislaw03.BandOnes'. -/
def bandOnesCard : Claim7 := { stood := { row := bandOnesRow, standIns := [], harness := (true, "5362eabf685e1dd51621a5a522dde5452f75064684a36d32ce51b1106bdb6cef"), looks := true }, kinds := [], alts := [], laidByText := true, laidKinds := [.data, .data, .data, .sentinel, .sentinel], laidTests := true, laidLooks := .later }
def BandOnesCardSaid : Prop := Claim7.holds Tryz.pinned (.plain (OpenSpec.ofChange bandOnesSpec)) bandOnesCard

/-- THE TIED CARD OF 'verdigrislaw03.BandTells'. -/
def bandTellsCard : Claim7 := { stood := { row := bandTellsRow, standIns := [], harness := (true, "5362eabf685e1dd51621a5a522dde5452f75064684a36d32ce51b1106bdb6cef"), looks := true }, kinds := [], alts := [], laidByText := true, laidKinds := [.data, .data, .data, .sentinel, .sentinel], laidTests := true, laidLooks := .later }
def BandTellsCardSaid : Prop := Claim7.holds Tryz.pinned (.plain (OpenSpec.ofChange bandTellsSpec)) bandTellsCard

/-- THE TIED CARD OF 'verdigrislaw03.BandMakes'. -/
def bandMakesCard : Claim7 := { stood := { row := bandMakesRow, standIns := [], harness := (true, "5362eabf685e1dd51621a5a522dde5452f75064684a36d32ce51b1106bdb6cef"), looks := true }, kinds := [], alts := [], laidByText := true, laidKinds := [.data, .data, .data, .sentinel, .sentinel], laidTests := true, laidLooks := .later }
def BandMakesCardSaid : Prop := Claim7.holds Tryz.pinned (.plain (OpenSpec.ofChange bandMakesSpec)) bandMakesCard

/-- THE TIED CARD OF 'verdigrislaw03.BandAround'. -/
def bandAroundCard : Claim7 := { stood := { row := bandAroundRow, standIns := [], harness := (true, "5362eabf685e1dd51621a5a522dde5452f75064684a36d32ce51b1106bdb6cef"), looks := true }, kinds := [], alts := [], laidByText := true, laidKinds := [.data, .data, .data, .sentinel, .sentinel], laidTests := true, laidLooks := .later }
def BandAroundCardSaid : Prop := Claim7.holds Tryz.pinned (.plain (OpenSpec.ofChange bandAroundSpec)) bandAroundCard

/-- THE TIED CARD OF 'verdigrislaw03.BandHolds'. -/
def bandHoldsCard : Claim7 := { stood := { row := bandHoldsRow, standIns := [], harness := (true, "5362eabf685e1dd51621a5a522dde5452f75064684a36d32ce51b1106bdb6cef"), looks := true }, kinds := [], alts := [], laidByText := true, laidKinds := [.data, .data, .data, .sentinel, .sentinel], laidTests := true, laidLooks := .later }
def BandHoldsCardSaid : Prop := Claim7.holds Tryz.pinned (.plain (OpenSpec.ofChange bandHoldsSpec)) bandHoldsCard

/-- THE SECOND FORM's CARD OF 'verdigrislaw03.BandOnes'. -/
def bandOnesUptoCard : Claim7 := { stood := { row := bandOnesUptoRow, standIns := [], harness := (true, "5362eabf685e1dd51621a5a522dde5452f75064684a36d32ce51b1106bdb6cef"), looks := true }, kinds := [], alts := [], laidByText := true, laidKinds := [.data, .data, .data, .sentinel, .sentinel], laidTests := true, laidLooks := .later }
def BandOnesUptoCardSaid : Prop := Claim7.holds Tryz.pinned (.plain (OpenSpec.upto bandOnesSpec)) bandOnesUptoCard

/-- THE SECOND FORM's CARD OF 'verdigrislaw03.BandTells'. -/
def bandTellsUptoCard : Claim7 := { stood := { row := bandTellsUptoRow, standIns := [], harness := (true, "5362eabf685e1dd51621a5a522dde5452f75064684a36d32ce51b1106bdb6cef"), looks := true }, kinds := [], alts := [], laidByText := true, laidKinds := [.data, .data, .data, .sentinel, .sentinel], laidTests := true, laidLooks := .later }
def BandTellsUptoCardSaid : Prop := Claim7.holds Tryz.pinned (.plain (OpenSpec.upto bandTellsSpec)) bandTellsUptoCard

/-- THE SECOND FORM's CARD OF 'verdigrislaw03.BandMakes'. -/
def bandMakesUptoCard : Claim7 := { stood := { row := bandMakesUptoRow, standIns := [], harness := (true, "5362eabf685e1dd51621a5a522dde5452f75064684a36d32ce51b1106bdb6cef"), looks := true }, kinds := [], alts := [], laidByText := true, laidKinds := [.data, .data, .data, .sentinel, .sentinel], laidTests := true, laidLooks := .later }
def BandMakesUptoCardSaid : Prop := Claim7.holds Tryz.pinned (.plain (OpenSpec.upto bandMakesSpec)) bandMakesUptoCard

/-- THE SECOND FORM's CARD OF 'verdigrislaw03.BandAround'. -/
def bandAroundUptoCard : Claim7 := { stood := { row := bandAroundUptoRow, standIns := [], harness := (true, "5362eabf685e1dd51621a5a522dde5452f75064684a36d32ce51b1106bdb6cef"), looks := true }, kinds := [], alts := [], laidByText := true, laidKinds := [.data, .data, .data, .sentinel, .sentinel], laidTests := true, laidLooks := .later }
def BandAroundUptoCardSaid : Prop := Claim7.holds Tryz.pinned (.plain (OpenSpec.upto bandAroundSpec)) bandAroundUptoCard

/-- THE SECOND FORM's CARD OF 'verdigrislaw03.BandHolds'. -/
def bandHoldsUptoCard : Claim7 := { stood := { row := bandHoldsUptoRow, standIns := [], harness := (true, "5362eabf685e1dd51621a5a522dde5452f75064684a36d32ce51b1106bdb6cef"), looks := true }, kinds := [], alts := [], laidByText := true, laidKinds := [.data, .data, .data, .sentinel, .sentinel], laidTests := true, laidLooks := .later }
def BandHoldsUptoCardSaid : Prop := Claim7.holds Tryz.pinned (.plain (OpenSpec.upto bandHoldsSpec)) bandHoldsUptoCard
end Rows
end Go.Proofs.YtplflfnfodghmaaGreatDoor
