/-
  DERIVED. GIVEN WITH THE SEED: THE CARDS: each row of YtfilfmadapjajaaGreatDoorRows.lean that lists a variable, with what it lists TIED to the program's text (the seventh form; the later family's looks); each row that meets fmt, with fmt's text TOLD by the authors' own Lean function (tested against real Go, not proved from fmt's source: count such statements apart). THE CARD IS WHAT COUNTS. Prove the row's statement (the work); the ties are given (YtfilfmadapjajaaGreatDoorTie.lean); close each card by the builder's one call (the guide's Derived/Test/ToyasCard.lean, 'card_holds'). Laid BY PROGRAM, IN A SANDBOX (cutbox-door.mjs). By AI agents, Wed Nov 11 2026. No macro, syntax, notation, axiom, sorry.
-/
import Derived.Test.YtfilfmadapjajaaGreatDoorRows
import GoSem.ClaimSeven
namespace Go.Proofs.YtfilfmadapjajaaGreatDoor
namespace Rows

/-- THE TIED CARD OF 'verdigrislaw23.LightMakes'. -/
def lightMakesCard : Claim7 := { stood := { row := lightMakesRow, standIns := [], harness := (true, "e303c4ab368eee617348d23fbc7a73513872e84fb4b3e10da7a7731c9f33c138"), looks := true }, kinds := [], alts := [], laidByText := true, laidKinds := [.data, .data, .data, .data], laidTests := true, laidLooks := .later }
def LightMakesCardSaid : Prop := Claim7.holds Tryz.pinned (.plain (OpenSpec.ofChange lightMakesSpec)) lightMakesCard

/-- THE TIED CARD OF 'verdigrislaw23.LightPlaces'. -/
def lightPlacesCard : Claim7 := { stood := { row := lightPlacesRow, standIns := [], harness := (true, "e303c4ab368eee617348d23fbc7a73513872e84fb4b3e10da7a7731c9f33c138"), looks := true }, kinds := [], alts := [], laidByText := true, laidKinds := [.data, .data, .data, .data], laidTests := true, laidLooks := .later }
def LightPlacesCardSaid : Prop := Claim7.holds Tryz.pinned (.plain (OpenSpec.ofChange lightPlacesSpec)) lightPlacesCard

/-- THE TIED CARD OF 'verdigrislaw23.LightDays'. -/
def lightDaysCard : Claim7 := { stood := { row := lightDaysRow, standIns := [], harness := (true, "e303c4ab368eee617348d23fbc7a73513872e84fb4b3e10da7a7731c9f33c138"), looks := true }, kinds := [], alts := [], laidByText := true, laidKinds := [.data, .data, .data, .data], laidTests := true, laidLooks := .later }
def LightDaysCardSaid : Prop := Claim7.holds Tryz.pinned (.plain (OpenSpec.ofChange lightDaysSpec)) lightDaysCard

/-- THE TIED CARD OF 'verdigrislaw23.LightMixes'. -/
def lightMixesCard : Claim7 := { stood := { row := lightMixesRow, standIns := [], harness := (true, "e303c4ab368eee617348d23fbc7a73513872e84fb4b3e10da7a7731c9f33c138"), looks := true }, kinds := [], alts := [], laidByText := true, laidKinds := [.data, .data, .data, .data], laidTests := true, laidLooks := .later }
def LightMixesCardSaid : Prop := Claim7.holds Tryz.pinned (.plain (OpenSpec.ofChange lightMixesSpec)) lightMixesCard

/-- THE TIED CARD OF 'verdigrislaw23.LightLine'. -/
def lightLineCard : Claim7 := { stood := { row := lightLineRow, standIns := [], harness := (true, "e303c4ab368eee617348d23fbc7a73513872e84fb4b3e10da7a7731c9f33c138"), looks := true }, kinds := [], alts := [], laidByText := true, laidKinds := [.data, .data, .data, .data], laidTests := true, laidLooks := .later }
def LightLineCardSaid : Prop := Claim7.holds Tryz.pinned (.plain (OpenSpec.ofChange lightLineSpec)) lightLineCard

/-- THE TIED CARD OF 'verdigrislaw23.LightSteps'. -/
def lightStepsCard : Claim7 := { stood := { row := lightStepsRow, standIns := [], harness := (true, "e303c4ab368eee617348d23fbc7a73513872e84fb4b3e10da7a7731c9f33c138"), looks := true }, kinds := [], alts := [], laidByText := true, laidKinds := [.data, .data, .data, .data], laidTests := true, laidLooks := .later }
def LightStepsCardSaid : Prop := Claim7.holds Tryz.pinned (.plain (OpenSpec.ofChange lightStepsSpec)) lightStepsCard

/-- THE TIED CARD OF 'verdigrislaw23.LightBack'. -/
def lightBackCard : Claim7 := { stood := { row := lightBackRow, standIns := [], harness := (true, "e303c4ab368eee617348d23fbc7a73513872e84fb4b3e10da7a7731c9f33c138"), looks := true }, kinds := [], alts := [], laidByText := true, laidKinds := [.data, .data, .data, .data], laidTests := true, laidLooks := .later }
def LightBackCardSaid : Prop := Claim7.holds Tryz.pinned (.plain (OpenSpec.ofChange lightBackSpec)) lightBackCard

/-- THE TIED CARD OF 'verdigrislaw23.LightKnown'. -/
def lightKnownCard : Claim7 := { stood := { row := lightKnownRow, standIns := [], harness := (true, "e303c4ab368eee617348d23fbc7a73513872e84fb4b3e10da7a7731c9f33c138"), looks := true }, kinds := [], alts := [], laidByText := true, laidKinds := [.data, .data, .data, .data], laidTests := true, laidLooks := .later }
def LightKnownCardSaid : Prop := Claim7.holds Tryz.pinned (.plain (OpenSpec.ofChange lightKnownSpec)) lightKnownCard

/-- THE SECOND FORM's CARD OF 'verdigrislaw23.LightMakes'. -/
def lightMakesUptoCard : Claim7 := { stood := { row := lightMakesUptoRow, standIns := [], harness := (true, "e303c4ab368eee617348d23fbc7a73513872e84fb4b3e10da7a7731c9f33c138"), looks := true }, kinds := [], alts := [], laidByText := true, laidKinds := [.data, .data, .data, .data], laidTests := true, laidLooks := .later }
def LightMakesUptoCardSaid : Prop := Claim7.holds Tryz.pinned (.plain (OpenSpec.upto lightMakesSpec)) lightMakesUptoCard

/-- THE SECOND FORM's CARD OF 'verdigrislaw23.LightPlaces'. -/
def lightPlacesUptoCard : Claim7 := { stood := { row := lightPlacesUptoRow, standIns := [], harness := (true, "e303c4ab368eee617348d23fbc7a73513872e84fb4b3e10da7a7731c9f33c138"), looks := true }, kinds := [], alts := [], laidByText := true, laidKinds := [.data, .data, .data, .data], laidTests := true, laidLooks := .later }
def LightPlacesUptoCardSaid : Prop := Claim7.holds Tryz.pinned (.plain (OpenSpec.upto lightPlacesSpec)) lightPlacesUptoCard

/-- THE SECOND FORM's CARD OF 'verdigrislaw23.LightDays'. -/
def lightDaysUptoCard : Claim7 := { stood := { row := lightDaysUptoRow, standIns := [], harness := (true, "e303c4ab368eee617348d23fbc7a73513872e84fb4b3e10da7a7731c9f33c138"), looks := true }, kinds := [], alts := [], laidByText := true, laidKinds := [.data, .data, .data, .data], laidTests := true, laidLooks := .later }
def LightDaysUptoCardSaid : Prop := Claim7.holds Tryz.pinned (.plain (OpenSpec.upto lightDaysSpec)) lightDaysUptoCard

/-- THE SECOND FORM's CARD OF 'verdigrislaw23.LightMixes'. -/
def lightMixesUptoCard : Claim7 := { stood := { row := lightMixesUptoRow, standIns := [], harness := (true, "e303c4ab368eee617348d23fbc7a73513872e84fb4b3e10da7a7731c9f33c138"), looks := true }, kinds := [], alts := [], laidByText := true, laidKinds := [.data, .data, .data, .data], laidTests := true, laidLooks := .later }
def LightMixesUptoCardSaid : Prop := Claim7.holds Tryz.pinned (.plain (OpenSpec.upto lightMixesSpec)) lightMixesUptoCard

/-- THE SECOND FORM's CARD OF 'verdigrislaw23.LightLine'. -/
def lightLineUptoCard : Claim7 := { stood := { row := lightLineUptoRow, standIns := [], harness := (true, "e303c4ab368eee617348d23fbc7a73513872e84fb4b3e10da7a7731c9f33c138"), looks := true }, kinds := [], alts := [], laidByText := true, laidKinds := [.data, .data, .data, .data], laidTests := true, laidLooks := .later }
def LightLineUptoCardSaid : Prop := Claim7.holds Tryz.pinned (.plain (OpenSpec.upto lightLineSpec)) lightLineUptoCard

/-- THE SECOND FORM's CARD OF 'verdigrislaw23.LightSteps'. -/
def lightStepsUptoCard : Claim7 := { stood := { row := lightStepsUptoRow, standIns := [], harness := (true, "e303c4ab368eee617348d23fbc7a73513872e84fb4b3e10da7a7731c9f33c138"), looks := true }, kinds := [], alts := [], laidByText := true, laidKinds := [.data, .data, .data, .data], laidTests := true, laidLooks := .later }
def LightStepsUptoCardSaid : Prop := Claim7.holds Tryz.pinned (.plain (OpenSpec.upto lightStepsSpec)) lightStepsUptoCard

/-- THE SECOND FORM's CARD OF 'verdigrislaw23.LightBack'. -/
def lightBackUptoCard : Claim7 := { stood := { row := lightBackUptoRow, standIns := [], harness := (true, "e303c4ab368eee617348d23fbc7a73513872e84fb4b3e10da7a7731c9f33c138"), looks := true }, kinds := [], alts := [], laidByText := true, laidKinds := [.data, .data, .data, .data], laidTests := true, laidLooks := .later }
def LightBackUptoCardSaid : Prop := Claim7.holds Tryz.pinned (.plain (OpenSpec.upto lightBackSpec)) lightBackUptoCard

/-- THE SECOND FORM's CARD OF 'verdigrislaw23.LightKnown'. -/
def lightKnownUptoCard : Claim7 := { stood := { row := lightKnownUptoRow, standIns := [], harness := (true, "e303c4ab368eee617348d23fbc7a73513872e84fb4b3e10da7a7731c9f33c138"), looks := true }, kinds := [], alts := [], laidByText := true, laidKinds := [.data, .data, .data, .data], laidTests := true, laidLooks := .later }
def LightKnownUptoCardSaid : Prop := Claim7.holds Tryz.pinned (.plain (OpenSpec.upto lightKnownSpec)) lightKnownUptoCard
end Rows
end Go.Proofs.YtfilfmadapjajaaGreatDoor
