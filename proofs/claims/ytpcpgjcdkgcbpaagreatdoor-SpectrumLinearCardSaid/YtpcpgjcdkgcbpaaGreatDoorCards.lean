/-
  DERIVED. GIVEN WITH THE SEED: THE CARDS: each row of YtpcpgjcdkgcbpaaGreatDoorRows.lean that lists a variable, with what it lists TIED to the program's text (the seventh form; the later family's looks); each row that meets fmt, with fmt's text TOLD by the authors' own Lean function (tested against real Go, not proved from fmt's source: count such statements apart). THE CARD IS WHAT COUNTS. Prove the row's statement (the work); the ties are given (YtpcpgjcdkgcbpaaGreatDoorTie.lean); close each card by the builder's one call (the guide's Derived/Test/ToyasCard.lean, 'card_holds'). Laid BY PROGRAM, IN A SANDBOX (cutbox-door.mjs). By AI agents, Wed Nov 11 2026. No macro, syntax, notation, axiom, sorry.
-/
import Derived.Test.YtpcpgjcdkgcbpaaGreatDoorRows
import GoSem.ClaimSeven
namespace Go.Proofs.YtpcpgjcdkgcbpaaGreatDoor
namespace Rows

/-- THE TIED CARD OF 'verdigrislaw26.SpectrumChecks'. -/
def spectrumChecksCard : Claim7 := { stood := { row := spectrumChecksRow, standIns := [], harness := (true, "7678312f9bde8edaf6ee345a3e37839cadfe13ebb2e07fc641c60b179636bab9"), looks := true }, kinds := [], alts := [], laidByText := true, laidKinds := [.data, .data, .data, .data], laidTests := true, laidLooks := .later }
def SpectrumChecksCardSaid : Prop := Claim7.holds Tryz.pinned (.plain (OpenSpec.ofChange spectrumChecksSpec)) spectrumChecksCard

/-- THE TIED CARD OF 'verdigrislaw26.SpectrumRises'. -/
def spectrumRisesCard : Claim7 := { stood := { row := spectrumRisesRow, standIns := [], harness := (true, "7678312f9bde8edaf6ee345a3e37839cadfe13ebb2e07fc641c60b179636bab9"), looks := true }, kinds := [], alts := [], laidByText := true, laidKinds := [.data, .data, .data, .data], laidTests := true, laidLooks := .later }
def SpectrumRisesCardSaid : Prop := Claim7.holds Tryz.pinned (.plain (OpenSpec.ofChange spectrumRisesSpec)) spectrumRisesCard

/-- THE TIED CARD OF 'verdigrislaw26.SpectrumKnown'. -/
def spectrumKnownCard : Claim7 := { stood := { row := spectrumKnownRow, standIns := [], harness := (true, "7678312f9bde8edaf6ee345a3e37839cadfe13ebb2e07fc641c60b179636bab9"), looks := true }, kinds := [], alts := [], laidByText := true, laidKinds := [.data, .data, .data, .data], laidTests := true, laidLooks := .later }
def SpectrumKnownCardSaid : Prop := Claim7.holds Tryz.pinned (.plain (OpenSpec.ofChange spectrumKnownSpec)) spectrumKnownCard

/-- THE TIED CARD OF 'verdigrislaw26.SpectrumKeeps'. -/
def spectrumKeepsCard : Claim7 := { stood := { row := spectrumKeepsRow, standIns := [], harness := (true, "7678312f9bde8edaf6ee345a3e37839cadfe13ebb2e07fc641c60b179636bab9"), looks := true }, kinds := [], alts := [], laidByText := true, laidKinds := [.data, .data, .data, .data], laidTests := true, laidLooks := .later }
def SpectrumKeepsCardSaid : Prop := Claim7.holds Tryz.pinned (.plain (OpenSpec.ofChange spectrumKeepsSpec)) spectrumKeepsCard

/-- THE TIED CARD OF 'verdigrislaw26.SpectrumFlat'. -/
def spectrumFlatCard : Claim7 := { stood := { row := spectrumFlatRow, standIns := [], harness := (true, "7678312f9bde8edaf6ee345a3e37839cadfe13ebb2e07fc641c60b179636bab9"), looks := true }, kinds := [], alts := [], laidByText := true, laidKinds := [.data, .data, .data, .data], laidTests := true, laidLooks := .later }
def SpectrumFlatCardSaid : Prop := Claim7.holds Tryz.pinned (.plain (OpenSpec.ofChange spectrumFlatSpec)) spectrumFlatCard

/-- THE TIED CARD OF 'verdigrislaw26.SpectrumLinear'. -/
def spectrumLinearCard : Claim7 := { stood := { row := spectrumLinearRow, standIns := [], harness := (true, "7678312f9bde8edaf6ee345a3e37839cadfe13ebb2e07fc641c60b179636bab9"), looks := true }, kinds := [], alts := [], laidByText := true, laidKinds := [.data, .data, .data, .data], laidTests := true, laidLooks := .later }
def SpectrumLinearCardSaid : Prop := Claim7.holds Tryz.pinned (.plain (OpenSpec.ofChange spectrumLinearSpec)) spectrumLinearCard

/-- THE SECOND FORM's CARD OF 'verdigrislaw26.SpectrumChecks'. -/
def spectrumChecksUptoCard : Claim7 := { stood := { row := spectrumChecksUptoRow, standIns := [], harness := (true, "7678312f9bde8edaf6ee345a3e37839cadfe13ebb2e07fc641c60b179636bab9"), looks := true }, kinds := [], alts := [], laidByText := true, laidKinds := [.data, .data, .data, .data], laidTests := true, laidLooks := .later }
def SpectrumChecksUptoCardSaid : Prop := Claim7.holds Tryz.pinned (.plain (OpenSpec.upto spectrumChecksSpec)) spectrumChecksUptoCard

/-- THE SECOND FORM's CARD OF 'verdigrislaw26.SpectrumRises'. -/
def spectrumRisesUptoCard : Claim7 := { stood := { row := spectrumRisesUptoRow, standIns := [], harness := (true, "7678312f9bde8edaf6ee345a3e37839cadfe13ebb2e07fc641c60b179636bab9"), looks := true }, kinds := [], alts := [], laidByText := true, laidKinds := [.data, .data, .data, .data], laidTests := true, laidLooks := .later }
def SpectrumRisesUptoCardSaid : Prop := Claim7.holds Tryz.pinned (.plain (OpenSpec.upto spectrumRisesSpec)) spectrumRisesUptoCard

/-- THE SECOND FORM's CARD OF 'verdigrislaw26.SpectrumKnown'. -/
def spectrumKnownUptoCard : Claim7 := { stood := { row := spectrumKnownUptoRow, standIns := [], harness := (true, "7678312f9bde8edaf6ee345a3e37839cadfe13ebb2e07fc641c60b179636bab9"), looks := true }, kinds := [], alts := [], laidByText := true, laidKinds := [.data, .data, .data, .data], laidTests := true, laidLooks := .later }
def SpectrumKnownUptoCardSaid : Prop := Claim7.holds Tryz.pinned (.plain (OpenSpec.upto spectrumKnownSpec)) spectrumKnownUptoCard

/-- THE SECOND FORM's CARD OF 'verdigrislaw26.SpectrumKeeps'. -/
def spectrumKeepsUptoCard : Claim7 := { stood := { row := spectrumKeepsUptoRow, standIns := [], harness := (true, "7678312f9bde8edaf6ee345a3e37839cadfe13ebb2e07fc641c60b179636bab9"), looks := true }, kinds := [], alts := [], laidByText := true, laidKinds := [.data, .data, .data, .data], laidTests := true, laidLooks := .later }
def SpectrumKeepsUptoCardSaid : Prop := Claim7.holds Tryz.pinned (.plain (OpenSpec.upto spectrumKeepsSpec)) spectrumKeepsUptoCard

/-- THE SECOND FORM's CARD OF 'verdigrislaw26.SpectrumFlat'. -/
def spectrumFlatUptoCard : Claim7 := { stood := { row := spectrumFlatUptoRow, standIns := [], harness := (true, "7678312f9bde8edaf6ee345a3e37839cadfe13ebb2e07fc641c60b179636bab9"), looks := true }, kinds := [], alts := [], laidByText := true, laidKinds := [.data, .data, .data, .data], laidTests := true, laidLooks := .later }
def SpectrumFlatUptoCardSaid : Prop := Claim7.holds Tryz.pinned (.plain (OpenSpec.upto spectrumFlatSpec)) spectrumFlatUptoCard

/-- THE SECOND FORM's CARD OF 'verdigrislaw26.SpectrumLinear'. -/
def spectrumLinearUptoCard : Claim7 := { stood := { row := spectrumLinearUptoRow, standIns := [], harness := (true, "7678312f9bde8edaf6ee345a3e37839cadfe13ebb2e07fc641c60b179636bab9"), looks := true }, kinds := [], alts := [], laidByText := true, laidKinds := [.data, .data, .data, .data], laidTests := true, laidLooks := .later }
def SpectrumLinearUptoCardSaid : Prop := Claim7.holds Tryz.pinned (.plain (OpenSpec.upto spectrumLinearSpec)) spectrumLinearUptoCard
end Rows
end Go.Proofs.YtpcpgjcdkgcbpaaGreatDoor
