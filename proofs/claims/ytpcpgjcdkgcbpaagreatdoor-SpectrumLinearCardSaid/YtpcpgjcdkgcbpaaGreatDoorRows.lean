/-
  NARROWER THAN 'FOR EVERY INPUT', by the rows' own cells (each row's printed sentence says how): SpectrumChecks: laid · SpectrumRises: laid · SpectrumKnown: laid · SpectrumKeeps: laid · SpectrumFlat: laid · SpectrumLinear: laid.
  DERIVED. THE GIVEN ROWS OF THIS SEAT. 6 by the template 'for every input the law returns true; each argument reads behind the call as it read before'; 0 by the template 'total and deterministic' (their statements: YtpcpgjcdkgcbpaaGreatDoorTotals.lean).
  GIVEN WITH THE SEED: the statements are not yours to turn. If you find one false, say at which input.
  Laid BY PROGRAM, IN A SANDBOX (cutbox-rows.mjs): the forced cells as the released guide's own fill.sh prints them over the translation 0b246c0cbb6b37a2… (all of the seat's roots in one cut). By AI agents, Wed Nov 11 2026. No macro, syntax, notation, axiom, sorry.
-/
import Derived.Test.YtpcpgjcdkgcbpaaGreatDoorChecked
import GoSem.Claim
import GoSem.ClaimJoined
import GoSem.ClaimMapViews
import Derived.JoinedTies
import Derived.KernelRfl
namespace Go.Proofs.YtpcpgjcdkgcbpaaGreatDoor
/- THE CELL 'sum', in the pinned program and in every row, IS THE sha256 OF THE DUMP (.gsa) THAT YtpcpgjcdkgcbpaaGreatDoorProg.lean LOADS. Nothing in Lean hashes anything: it is a label: what it is worth is what the hold of that sum in a sandbox is worth. -/
noncomputable def Tryz.pinned : Pinned := { name := "ytpcpgjcdkgcbpaagreatdoor", sum := "0b246c0cbb6b37a29551fa0f3863d47dee3187394a03f0b8b35a25317ddf0322", checked := Tryz.checked }
namespace Rows
def none {H : Type} : Left H := { results := [], args := [] }

/- WHAT THE LISTED PACKAGE-LEVEL VARIABLES READ AS WHEN THE CALL BEGINS. Each datum BY PROGRAM (the guide's laid-datum.mjs) off the statement by which the dump's own 'gosem.cut.vars' lays the variable. In a bare row this is a premise. The card (YtpcpgjcdkgcbpaaGreatDoorCards.lean) ties it to the program's text. -/
def laid_math_bits_deBruijn32tab {H : Type} : DataW H := .agg [.lit (.int .u8 0), .lit (.int .u8 1), .lit (.int .u8 28), .lit (.int .u8 2), .lit (.int .u8 29), .lit (.int .u8 14), .lit (.int .u8 24), .lit (.int .u8 3), .lit (.int .u8 30), .lit (.int .u8 22), .lit (.int .u8 20), .lit (.int .u8 15), .lit (.int .u8 25), .lit (.int .u8 17), .lit (.int .u8 4), .lit (.int .u8 8), .lit (.int .u8 31), .lit (.int .u8 27), .lit (.int .u8 13), .lit (.int .u8 23), .lit (.int .u8 21), .lit (.int .u8 19), .lit (.int .u8 16), .lit (.int .u8 7), .lit (.int .u8 26), .lit (.int .u8 12), .lit (.int .u8 18), .lit (.int .u8 6), .lit (.int .u8 11), .lit (.int .u8 5), .lit (.int .u8 10), .lit (.int .u8 9)]
def laid_math_bits_deBruijn64tab {H : Type} : DataW H := .agg [.lit (.int .u8 0), .lit (.int .u8 1), .lit (.int .u8 56), .lit (.int .u8 2), .lit (.int .u8 57), .lit (.int .u8 49), .lit (.int .u8 28), .lit (.int .u8 3), .lit (.int .u8 61), .lit (.int .u8 58), .lit (.int .u8 42), .lit (.int .u8 50), .lit (.int .u8 38), .lit (.int .u8 29), .lit (.int .u8 17), .lit (.int .u8 4), .lit (.int .u8 62), .lit (.int .u8 47), .lit (.int .u8 59), .lit (.int .u8 36), .lit (.int .u8 45), .lit (.int .u8 43), .lit (.int .u8 51), .lit (.int .u8 22), .lit (.int .u8 53), .lit (.int .u8 39), .lit (.int .u8 33), .lit (.int .u8 30), .lit (.int .u8 24), .lit (.int .u8 18), .lit (.int .u8 12), .lit (.int .u8 5), .lit (.int .u8 63), .lit (.int .u8 55), .lit (.int .u8 48), .lit (.int .u8 27), .lit (.int .u8 60), .lit (.int .u8 41), .lit (.int .u8 37), .lit (.int .u8 16), .lit (.int .u8 46), .lit (.int .u8 35), .lit (.int .u8 44), .lit (.int .u8 21), .lit (.int .u8 52), .lit (.int .u8 32), .lit (.int .u8 23), .lit (.int .u8 11), .lit (.int .u8 54), .lit (.int .u8 26), .lit (.int .u8 40), .lit (.int .u8 15), .lit (.int .u8 34), .lit (.int .u8 20), .lit (.int .u8 31), .lit (.int .u8 10), .lit (.int .u8 25), .lit (.int .u8 14), .lit (.int .u8 19), .lit (.int .u8 9), .lit (.int .u8 13), .lit (.int .u8 8), .lit (.int .u8 7), .lit (.int .u8 6)]
def laid_internal_strconv_uint64pow10 {H : Type} : DataW H := .agg [.lit (.int .u64 1), .lit (.int .u64 10), .lit (.int .u64 100), .lit (.int .u64 1000), .lit (.int .u64 10000), .lit (.int .u64 100000), .lit (.int .u64 1000000), .lit (.int .u64 10000000), .lit (.int .u64 100000000), .lit (.int .u64 1000000000), .lit (.int .u64 10000000000), .lit (.int .u64 100000000000), .lit (.int .u64 1000000000000), .lit (.int .u64 10000000000000), .lit (.int .u64 100000000000000), .lit (.int .u64 1000000000000000), .lit (.int .u64 10000000000000000), .lit (.int .u64 100000000000000000), .lit (.int .u64 1000000000000000000), .lit (.int .u64 10000000000000000000)]
def laid_verdigris_spectrum_waves {H : Type} : DataW H := .agg [.agg [.lit (.int .i64 14310), .lit (.int .i64 396), .lit (.int .i64 67850), .lit (.int .i64 147080), .lit (.int .i64 827549)], .agg [.lit (.int .i64 134380), .lit (.int .i64 4000), .lit (.int .i64 645600), .lit (.int .i64 209950), .lit (.int .i64 934318)], .agg [.lit (.int .i64 348280), .lit (.int .i64 23000), .lit (.int .i64 1747060), .lit (.int .i64 287027), .lit (.int .i64 1048650)], .agg [.lit (.int .i64 290800), .lit (.int .i64 60000), .lit (.int .i64 1669200), .lit (.int .i64 378121), .lit (.int .i64 1178120)], .agg [.lit (.int .i64 95640), .lit (.int .i64 139020), .lit (.int .i64 812950), .lit (.int .i64 482423), .lit (.int .i64 1159230)], .agg [.lit (.int .i64 4900), .lit (.int .i64 323000), .lit (.int .i64 272000), .lit (.int .i64 598611), .lit (.int .i64 1093540)], .agg [.lit (.int .i64 63270), .lit (.int .i64 710000), .lit (.int .i64 78250), .lit (.int .i64 724959), .lit (.int .i64 1047900)], .agg [.lit (.int .i64 290400), .lit (.int .i64 954000), .lit (.int .i64 20300), .lit (.int .i64 859470), .lit (.int .i64 1044050)], .agg [.lit (.int .i64 594500), .lit (.int .i64 995000), .lit (.int .i64 3900), .lit (.int .i64 1000000), .lit (.int .i64 1000000)], .agg [.lit (.int .i64 916300), .lit (.int .i64 870000), .lit (.int .i64 1650), .lit (.int .i64 1144360), .lit (.int .i64 957880)], .agg [.lit (.int .i64 1062200), .lit (.int .i64 631000), .lit (.int .i64 800), .lit (.int .i64 1290430), .lit (.int .i64 900062)], .agg [.lit (.int .i64 854450), .lit (.int .i64 381000), .lit (.int .i64 190), .lit (.int .i64 1436180), .lit (.int .i64 876987)], .agg [.lit (.int .i64 447900), .lit (.int .i64 175000), .lit (.int .i64 20), .lit (.int .i64 1579790), .lit (.int .i64 836992)], .agg [.lit (.int .i64 164900), .lit (.int .i64 61000), .lit (.int .i64 0), .lit (.int .i64 1719630), .lit (.int .i64 802146)], .agg [.lit (.int .i64 46770), .lit (.int .i64 17000), .lit (.int .i64 0), .lit (.int .i64 1854290), .lit (.int .i64 782842)], .agg [.lit (.int .i64 11359), .lit (.int .i64 4102), .lit (.int .i64 0), .lit (.int .i64 1982610), .lit (.int .i64 716091)]]

/-- 'verdigrislaw26.SpectrumChecks': WHATEVER THE INPUT: true; the input reads as it did. -/
def spectrumChecksSpec : ChangeSpec := { name := "spectrumChecks", fn := fun _ => fun
  | [d1, d2, d3, d4, d5, d6] => { results := [.lit (.bool true)], args := [d1, d2, d3, d4, d5, d6] }
  | _ => none }
def spectrumChecksRow : OpenClaim := { program := "ytpcpgjcdkgcbpaagreatdoor", sum := "0b246c0cbb6b37a29551fa0f3863d47dee3187394a03f0b8b35a25317ddf0322", func := "verdigris/verdigrislaw26.SpectrumChecks", spec := "spectrumChecks", inPlace := ["internal/abi.NoEscape"], unfollowed := true, recurses := true, named := ["verdigris/spectrum.waves", "internal/strconv.uint64pow10", "math/bits.deBruijn32tab", "math/bits.deBruijn64tab"], apart := false, laid := [("math/bits.deBruijn32tab", laid_math_bits_deBruijn32tab), ("math/bits.deBruijn64tab", laid_math_bits_deBruijn64tab), ("internal/strconv.uint64pow10", laid_internal_strconv_uint64pow10), ("verdigris/spectrum.waves", laid_verdigris_spectrum_waves)] }
def SpectrumChecksSaid : Prop := spectrumChecksRow.holds Tryz.pinned (OpenSpec.ofChange spectrumChecksSpec)

/-- ITS FALSE NEIGHBOUR: 'it returns false'. Refute it at one input. -/
def spectrumChecksWrong : ChangeSpec := { name := "spectrumChecks", fn := fun _ => fun
  | [d1, d2, d3, d4, d5, d6] => { results := [.lit (.bool false)], args := [d1, d2, d3, d4, d5, d6] }
  | _ => none }
def SpectrumChecksWrongFalsely : Prop := spectrumChecksRow.holds Tryz.pinned (OpenSpec.ofChange spectrumChecksWrong)

/-- 'verdigrislaw26.SpectrumRises': WHATEVER THE INPUT: true; the input reads as it did. -/
def spectrumRisesSpec : ChangeSpec := { name := "spectrumRises", fn := fun _ => fun
  | [d1, d2, d3, d4] => { results := [.lit (.bool true)], args := [d1, d2, d3, d4] }
  | _ => none }
def spectrumRisesRow : OpenClaim := { program := "ytpcpgjcdkgcbpaagreatdoor", sum := "0b246c0cbb6b37a29551fa0f3863d47dee3187394a03f0b8b35a25317ddf0322", func := "verdigris/verdigrislaw26.SpectrumRises", spec := "spectrumRises", inPlace := ["internal/abi.NoEscape"], unfollowed := true, recurses := true, named := ["verdigris/spectrum.waves", "internal/strconv.uint64pow10", "math/bits.deBruijn32tab", "math/bits.deBruijn64tab"], apart := false, laid := [("math/bits.deBruijn32tab", laid_math_bits_deBruijn32tab), ("math/bits.deBruijn64tab", laid_math_bits_deBruijn64tab), ("internal/strconv.uint64pow10", laid_internal_strconv_uint64pow10), ("verdigris/spectrum.waves", laid_verdigris_spectrum_waves)] }
def SpectrumRisesSaid : Prop := spectrumRisesRow.holds Tryz.pinned (OpenSpec.ofChange spectrumRisesSpec)

/-- ITS FALSE NEIGHBOUR: 'it returns false'. Refute it at one input. -/
def spectrumRisesWrong : ChangeSpec := { name := "spectrumRises", fn := fun _ => fun
  | [d1, d2, d3, d4] => { results := [.lit (.bool false)], args := [d1, d2, d3, d4] }
  | _ => none }
def SpectrumRisesWrongFalsely : Prop := spectrumRisesRow.holds Tryz.pinned (OpenSpec.ofChange spectrumRisesWrong)

/-- 'verdigrislaw26.SpectrumKnown': WHATEVER THE INPUT: true; the input reads as it did. -/
def spectrumKnownSpec : ChangeSpec := { name := "spectrumKnown", fn := fun _ => fun
  | [] => { results := [.lit (.bool true)], args := [] }
  | _ => none }
def spectrumKnownRow : OpenClaim := { program := "ytpcpgjcdkgcbpaagreatdoor", sum := "0b246c0cbb6b37a29551fa0f3863d47dee3187394a03f0b8b35a25317ddf0322", func := "verdigris/verdigrislaw26.SpectrumKnown", spec := "spectrumKnown", inPlace := ["internal/abi.NoEscape"], unfollowed := true, recurses := true, named := ["verdigris/spectrum.waves", "internal/strconv.uint64pow10", "math/bits.deBruijn32tab", "math/bits.deBruijn64tab"], apart := false, laid := [("math/bits.deBruijn32tab", laid_math_bits_deBruijn32tab), ("math/bits.deBruijn64tab", laid_math_bits_deBruijn64tab), ("internal/strconv.uint64pow10", laid_internal_strconv_uint64pow10), ("verdigris/spectrum.waves", laid_verdigris_spectrum_waves)] }
def SpectrumKnownSaid : Prop := spectrumKnownRow.holds Tryz.pinned (OpenSpec.ofChange spectrumKnownSpec)

/-- ITS FALSE NEIGHBOUR: 'it returns false'. Refute it at one input. -/
def spectrumKnownWrong : ChangeSpec := { name := "spectrumKnown", fn := fun _ => fun
  | [] => { results := [.lit (.bool false)], args := [] }
  | _ => none }
def SpectrumKnownWrongFalsely : Prop := spectrumKnownRow.holds Tryz.pinned (OpenSpec.ofChange spectrumKnownWrong)

/-- 'verdigrislaw26.SpectrumKeeps': WHATEVER THE INPUT: true; the input reads as it did. -/
def spectrumKeepsSpec : ChangeSpec := { name := "spectrumKeeps", fn := fun _ => fun
  | [d1, d2, d3] => { results := [.lit (.bool true)], args := [d1, d2, d3] }
  | _ => none }
def spectrumKeepsRow : OpenClaim := { program := "ytpcpgjcdkgcbpaagreatdoor", sum := "0b246c0cbb6b37a29551fa0f3863d47dee3187394a03f0b8b35a25317ddf0322", func := "verdigris/verdigrislaw26.SpectrumKeeps", spec := "spectrumKeeps", inPlace := ["internal/abi.NoEscape"], unfollowed := true, recurses := true, named := ["verdigris/spectrum.waves", "internal/strconv.uint64pow10", "math/bits.deBruijn32tab", "math/bits.deBruijn64tab"], apart := false, laid := [("math/bits.deBruijn32tab", laid_math_bits_deBruijn32tab), ("math/bits.deBruijn64tab", laid_math_bits_deBruijn64tab), ("internal/strconv.uint64pow10", laid_internal_strconv_uint64pow10), ("verdigris/spectrum.waves", laid_verdigris_spectrum_waves)] }
def SpectrumKeepsSaid : Prop := spectrumKeepsRow.holds Tryz.pinned (OpenSpec.ofChange spectrumKeepsSpec)

/-- ITS FALSE NEIGHBOUR: 'it returns false'. Refute it at one input. -/
def spectrumKeepsWrong : ChangeSpec := { name := "spectrumKeeps", fn := fun _ => fun
  | [d1, d2, d3] => { results := [.lit (.bool false)], args := [d1, d2, d3] }
  | _ => none }
def SpectrumKeepsWrongFalsely : Prop := spectrumKeepsRow.holds Tryz.pinned (OpenSpec.ofChange spectrumKeepsWrong)

/-- 'verdigrislaw26.SpectrumFlat': WHATEVER THE INPUT: true; the input reads as it did. -/
def spectrumFlatSpec : ChangeSpec := { name := "spectrumFlat", fn := fun _ => fun
  | [d1, d2] => { results := [.lit (.bool true)], args := [d1, d2] }
  | _ => none }
def spectrumFlatRow : OpenClaim := { program := "ytpcpgjcdkgcbpaagreatdoor", sum := "0b246c0cbb6b37a29551fa0f3863d47dee3187394a03f0b8b35a25317ddf0322", func := "verdigris/verdigrislaw26.SpectrumFlat", spec := "spectrumFlat", inPlace := ["internal/abi.NoEscape"], unfollowed := true, recurses := true, named := ["verdigris/spectrum.waves", "internal/strconv.uint64pow10", "math/bits.deBruijn32tab", "math/bits.deBruijn64tab"], apart := false, laid := [("math/bits.deBruijn32tab", laid_math_bits_deBruijn32tab), ("math/bits.deBruijn64tab", laid_math_bits_deBruijn64tab), ("internal/strconv.uint64pow10", laid_internal_strconv_uint64pow10), ("verdigris/spectrum.waves", laid_verdigris_spectrum_waves)] }
def SpectrumFlatSaid : Prop := spectrumFlatRow.holds Tryz.pinned (OpenSpec.ofChange spectrumFlatSpec)

/-- ITS FALSE NEIGHBOUR: 'it returns false'. Refute it at one input. -/
def spectrumFlatWrong : ChangeSpec := { name := "spectrumFlat", fn := fun _ => fun
  | [d1, d2] => { results := [.lit (.bool false)], args := [d1, d2] }
  | _ => none }
def SpectrumFlatWrongFalsely : Prop := spectrumFlatRow.holds Tryz.pinned (OpenSpec.ofChange spectrumFlatWrong)

/-- 'verdigrislaw26.SpectrumLinear': WHATEVER THE INPUT: true; the input reads as it did. -/
def spectrumLinearSpec : ChangeSpec := { name := "spectrumLinear", fn := fun _ => fun
  | [d1, d2, d3, d4] => { results := [.lit (.bool true)], args := [d1, d2, d3, d4] }
  | _ => none }
def spectrumLinearRow : OpenClaim := { program := "ytpcpgjcdkgcbpaagreatdoor", sum := "0b246c0cbb6b37a29551fa0f3863d47dee3187394a03f0b8b35a25317ddf0322", func := "verdigris/verdigrislaw26.SpectrumLinear", spec := "spectrumLinear", inPlace := ["internal/abi.NoEscape"], unfollowed := true, recurses := true, named := ["verdigris/spectrum.waves", "internal/strconv.uint64pow10", "math/bits.deBruijn32tab", "math/bits.deBruijn64tab"], apart := false, laid := [("math/bits.deBruijn32tab", laid_math_bits_deBruijn32tab), ("math/bits.deBruijn64tab", laid_math_bits_deBruijn64tab), ("internal/strconv.uint64pow10", laid_internal_strconv_uint64pow10), ("verdigris/spectrum.waves", laid_verdigris_spectrum_waves)] }
def SpectrumLinearSaid : Prop := spectrumLinearRow.holds Tryz.pinned (OpenSpec.ofChange spectrumLinearSpec)

/-- ITS FALSE NEIGHBOUR: 'it returns false'. Refute it at one input. -/
def spectrumLinearWrong : ChangeSpec := { name := "spectrumLinear", fn := fun _ => fun
  | [d1, d2, d3, d4] => { results := [.lit (.bool false)], args := [d1, d2, d3, d4] }
  | _ => none }
def SpectrumLinearWrongFalsely : Prop := spectrumLinearRow.holds Tryz.pinned (OpenSpec.ofChange spectrumLinearWrong)

/- THE SECOND FORM. 'bulk': how many values and letters a reading holds, each counted each time it is reached (what is shared counts as often as it is met; a slice's spare places count too). A statement '..UptoSaid' is the law's where the arguments, and the package variables that the reading takes, are together of bulk at most 1048576: NARROWER than '..Said'. Prove '..Said' where nothing that the law and all that it calls make is longer than what came in: it says more and counts as full. Else prove '..UptoSaid'. A law counts once. -/
mutual
def uptoBulk {H : Type} : DataW H → Nat
  | .lit (.string bytes) => bytes.length + 1
  | .lit _ => 1
  | .nil => 1
  | .ptr d => uptoBulk d + 1
  | .slice elems spare => uptoBulkAll elems + uptoBulkAll spare + 1
  | .agg parts => uptoBulkAll parts + 1
  | .iface _ d => uptoBulk d + 1
  | .map entries => uptoBulkEntries entries + 1
  | .held _ => 1
def uptoBulkAll {H : Type} : List (DataW H) → Nat
  | [] => 0
  | d :: r => uptoBulk d + uptoBulkAll r
def uptoBulkEntries {H : Type} : List (Lit × DataW H) → Nat
  | [] => 0
  | x :: r => uptoBulkEntry x + uptoBulkEntries r
def uptoBulkEntry {H : Type} : Lit × DataW H → Nat
  | (.string bytes, d) => bytes.length + uptoBulk d + 1
  | (_, d) => uptoBulk d + 1
 end
def uptoSmall : (H : Type) → List (DataW H) → Bool := fun _ ds => decide (uptoBulkAll ds ≤ 1048576)
def OpenSpec.upto (s : _root_.Go.ChangeSpec) : _root_.Go.OpenSpec := { _root_.Go.OpenSpec.ofChange s with cond := some uptoSmall }

/-- 'verdigrislaw26.SpectrumChecks', WHERE WHAT IT READS IS OF BULK AT MOST 1048576: true; the input reads as it did. -/
def spectrumChecksUptoRow : OpenClaim := { program := "ytpcpgjcdkgcbpaagreatdoor", sum := "0b246c0cbb6b37a29551fa0f3863d47dee3187394a03f0b8b35a25317ddf0322", func := "verdigris/verdigrislaw26.SpectrumChecks", spec := "spectrumChecks", inPlace := ["internal/abi.NoEscape"], unfollowed := true, recurses := true, named := ["verdigris/spectrum.waves", "internal/strconv.uint64pow10", "math/bits.deBruijn32tab", "math/bits.deBruijn64tab"], apart := false, laid := [("math/bits.deBruijn32tab", laid_math_bits_deBruijn32tab), ("math/bits.deBruijn64tab", laid_math_bits_deBruijn64tab), ("internal/strconv.uint64pow10", laid_internal_strconv_uint64pow10), ("verdigris/spectrum.waves", laid_verdigris_spectrum_waves)], narrowed := true }
def SpectrumChecksUptoSaid : Prop := spectrumChecksUptoRow.holds Tryz.pinned (OpenSpec.upto spectrumChecksSpec)

/-- 'verdigrislaw26.SpectrumRises', WHERE WHAT IT READS IS OF BULK AT MOST 1048576: true; the input reads as it did. -/
def spectrumRisesUptoRow : OpenClaim := { program := "ytpcpgjcdkgcbpaagreatdoor", sum := "0b246c0cbb6b37a29551fa0f3863d47dee3187394a03f0b8b35a25317ddf0322", func := "verdigris/verdigrislaw26.SpectrumRises", spec := "spectrumRises", inPlace := ["internal/abi.NoEscape"], unfollowed := true, recurses := true, named := ["verdigris/spectrum.waves", "internal/strconv.uint64pow10", "math/bits.deBruijn32tab", "math/bits.deBruijn64tab"], apart := false, laid := [("math/bits.deBruijn32tab", laid_math_bits_deBruijn32tab), ("math/bits.deBruijn64tab", laid_math_bits_deBruijn64tab), ("internal/strconv.uint64pow10", laid_internal_strconv_uint64pow10), ("verdigris/spectrum.waves", laid_verdigris_spectrum_waves)], narrowed := true }
def SpectrumRisesUptoSaid : Prop := spectrumRisesUptoRow.holds Tryz.pinned (OpenSpec.upto spectrumRisesSpec)

/-- 'verdigrislaw26.SpectrumKnown', WHERE WHAT IT READS IS OF BULK AT MOST 1048576: true; the input reads as it did. -/
def spectrumKnownUptoRow : OpenClaim := { program := "ytpcpgjcdkgcbpaagreatdoor", sum := "0b246c0cbb6b37a29551fa0f3863d47dee3187394a03f0b8b35a25317ddf0322", func := "verdigris/verdigrislaw26.SpectrumKnown", spec := "spectrumKnown", inPlace := ["internal/abi.NoEscape"], unfollowed := true, recurses := true, named := ["verdigris/spectrum.waves", "internal/strconv.uint64pow10", "math/bits.deBruijn32tab", "math/bits.deBruijn64tab"], apart := false, laid := [("math/bits.deBruijn32tab", laid_math_bits_deBruijn32tab), ("math/bits.deBruijn64tab", laid_math_bits_deBruijn64tab), ("internal/strconv.uint64pow10", laid_internal_strconv_uint64pow10), ("verdigris/spectrum.waves", laid_verdigris_spectrum_waves)], narrowed := true }
def SpectrumKnownUptoSaid : Prop := spectrumKnownUptoRow.holds Tryz.pinned (OpenSpec.upto spectrumKnownSpec)

/-- 'verdigrislaw26.SpectrumKeeps', WHERE WHAT IT READS IS OF BULK AT MOST 1048576: true; the input reads as it did. -/
def spectrumKeepsUptoRow : OpenClaim := { program := "ytpcpgjcdkgcbpaagreatdoor", sum := "0b246c0cbb6b37a29551fa0f3863d47dee3187394a03f0b8b35a25317ddf0322", func := "verdigris/verdigrislaw26.SpectrumKeeps", spec := "spectrumKeeps", inPlace := ["internal/abi.NoEscape"], unfollowed := true, recurses := true, named := ["verdigris/spectrum.waves", "internal/strconv.uint64pow10", "math/bits.deBruijn32tab", "math/bits.deBruijn64tab"], apart := false, laid := [("math/bits.deBruijn32tab", laid_math_bits_deBruijn32tab), ("math/bits.deBruijn64tab", laid_math_bits_deBruijn64tab), ("internal/strconv.uint64pow10", laid_internal_strconv_uint64pow10), ("verdigris/spectrum.waves", laid_verdigris_spectrum_waves)], narrowed := true }
def SpectrumKeepsUptoSaid : Prop := spectrumKeepsUptoRow.holds Tryz.pinned (OpenSpec.upto spectrumKeepsSpec)

/-- 'verdigrislaw26.SpectrumFlat', WHERE WHAT IT READS IS OF BULK AT MOST 1048576: true; the input reads as it did. -/
def spectrumFlatUptoRow : OpenClaim := { program := "ytpcpgjcdkgcbpaagreatdoor", sum := "0b246c0cbb6b37a29551fa0f3863d47dee3187394a03f0b8b35a25317ddf0322", func := "verdigris/verdigrislaw26.SpectrumFlat", spec := "spectrumFlat", inPlace := ["internal/abi.NoEscape"], unfollowed := true, recurses := true, named := ["verdigris/spectrum.waves", "internal/strconv.uint64pow10", "math/bits.deBruijn32tab", "math/bits.deBruijn64tab"], apart := false, laid := [("math/bits.deBruijn32tab", laid_math_bits_deBruijn32tab), ("math/bits.deBruijn64tab", laid_math_bits_deBruijn64tab), ("internal/strconv.uint64pow10", laid_internal_strconv_uint64pow10), ("verdigris/spectrum.waves", laid_verdigris_spectrum_waves)], narrowed := true }
def SpectrumFlatUptoSaid : Prop := spectrumFlatUptoRow.holds Tryz.pinned (OpenSpec.upto spectrumFlatSpec)

/-- 'verdigrislaw26.SpectrumLinear', WHERE WHAT IT READS IS OF BULK AT MOST 1048576: true; the input reads as it did. -/
def spectrumLinearUptoRow : OpenClaim := { program := "ytpcpgjcdkgcbpaagreatdoor", sum := "0b246c0cbb6b37a29551fa0f3863d47dee3187394a03f0b8b35a25317ddf0322", func := "verdigris/verdigrislaw26.SpectrumLinear", spec := "spectrumLinear", inPlace := ["internal/abi.NoEscape"], unfollowed := true, recurses := true, named := ["verdigris/spectrum.waves", "internal/strconv.uint64pow10", "math/bits.deBruijn32tab", "math/bits.deBruijn64tab"], apart := false, laid := [("math/bits.deBruijn32tab", laid_math_bits_deBruijn32tab), ("math/bits.deBruijn64tab", laid_math_bits_deBruijn64tab), ("internal/strconv.uint64pow10", laid_internal_strconv_uint64pow10), ("verdigris/spectrum.waves", laid_verdigris_spectrum_waves)], narrowed := true }
def SpectrumLinearUptoSaid : Prop := spectrumLinearUptoRow.holds Tryz.pinned (OpenSpec.upto spectrumLinearSpec)

end Rows
end Go.Proofs.YtpcpgjcdkgcbpaaGreatDoor
