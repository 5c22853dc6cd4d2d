/-
  NARROWER THAN 'FOR EVERY INPUT', by the rows' own cells (each row's printed sentence says how): LightMakes: laid · LightPlaces: laid · LightDays: laid · LightMixes: laid · LightLine: laid · LightSteps: laid · LightBack: laid · LightKnown: laid.
  DERIVED. THE GIVEN ROWS OF THIS SEAT. 8 by the template 'for every input the law returns true; each argument reads behind the call as it read before'; 0 by the template 'total and deterministic' (their statements: YtfilfmadapjajaaGreatDoorTotals.lean).
  GIVEN WITH THE SEED: the statements are not yours to turn. If you find one false, say at which input.
  Laid BY PROGRAM, IN A SANDBOX (cutbox-rows.mjs): the forced cells as the released guide's own fill.sh prints them over the translation fb1aac86d74755af… (all of the seat's roots in one cut). By AI agents, Wed Nov 11 2026. No macro, syntax, notation, axiom, sorry.
-/
import Derived.Test.YtfilfmadapjajaaGreatDoorChecked
import GoSem.Claim
import GoSem.ClaimJoined
import GoSem.ClaimMapViews
import Derived.JoinedTies
import Derived.KernelRfl
namespace Go.Proofs.YtfilfmadapjajaaGreatDoor
/- THE CELL 'sum', in the pinned program and in every row, IS THE sha256 OF THE DUMP (.gsa) THAT YtfilfmadapjajaaGreatDoorProg.lean LOADS. Nothing in Lean hashes anything: it is a label: what it is worth is what the hold of that sum in a sandbox is worth. -/
noncomputable def Tryz.pinned : Pinned := { name := "ytfilfmadapjajaagreatdoor", sum := "fb1aac86d74755af0d8eb2e753850721bdd7055bad5e53befba2f28cc1517e3c", checked := Tryz.checked }
namespace Rows
def none {H : Type} : Left H := { results := [], args := [] }

/- WHAT THE LISTED PACKAGE-LEVEL VARIABLES READ AS WHEN THE CALL BEGINS. Each datum BY PROGRAM (the guide's laid-datum.mjs) off the statement by which the dump's own 'gosem.cut.vars' lays the variable. In a bare row this is a premise. The card (YtfilfmadapjajaaGreatDoorCards.lean) ties it to the program's text. -/
def laid_math_bits_deBruijn32tab {H : Type} : DataW H := .agg [.lit (.int .u8 0), .lit (.int .u8 1), .lit (.int .u8 28), .lit (.int .u8 2), .lit (.int .u8 29), .lit (.int .u8 14), .lit (.int .u8 24), .lit (.int .u8 3), .lit (.int .u8 30), .lit (.int .u8 22), .lit (.int .u8 20), .lit (.int .u8 15), .lit (.int .u8 25), .lit (.int .u8 17), .lit (.int .u8 4), .lit (.int .u8 8), .lit (.int .u8 31), .lit (.int .u8 27), .lit (.int .u8 13), .lit (.int .u8 23), .lit (.int .u8 21), .lit (.int .u8 19), .lit (.int .u8 16), .lit (.int .u8 7), .lit (.int .u8 26), .lit (.int .u8 12), .lit (.int .u8 18), .lit (.int .u8 6), .lit (.int .u8 11), .lit (.int .u8 5), .lit (.int .u8 10), .lit (.int .u8 9)]
def laid_math_bits_deBruijn64tab {H : Type} : DataW H := .agg [.lit (.int .u8 0), .lit (.int .u8 1), .lit (.int .u8 56), .lit (.int .u8 2), .lit (.int .u8 57), .lit (.int .u8 49), .lit (.int .u8 28), .lit (.int .u8 3), .lit (.int .u8 61), .lit (.int .u8 58), .lit (.int .u8 42), .lit (.int .u8 50), .lit (.int .u8 38), .lit (.int .u8 29), .lit (.int .u8 17), .lit (.int .u8 4), .lit (.int .u8 62), .lit (.int .u8 47), .lit (.int .u8 59), .lit (.int .u8 36), .lit (.int .u8 45), .lit (.int .u8 43), .lit (.int .u8 51), .lit (.int .u8 22), .lit (.int .u8 53), .lit (.int .u8 39), .lit (.int .u8 33), .lit (.int .u8 30), .lit (.int .u8 24), .lit (.int .u8 18), .lit (.int .u8 12), .lit (.int .u8 5), .lit (.int .u8 63), .lit (.int .u8 55), .lit (.int .u8 48), .lit (.int .u8 27), .lit (.int .u8 60), .lit (.int .u8 41), .lit (.int .u8 37), .lit (.int .u8 16), .lit (.int .u8 46), .lit (.int .u8 35), .lit (.int .u8 44), .lit (.int .u8 21), .lit (.int .u8 52), .lit (.int .u8 32), .lit (.int .u8 23), .lit (.int .u8 11), .lit (.int .u8 54), .lit (.int .u8 26), .lit (.int .u8 40), .lit (.int .u8 15), .lit (.int .u8 34), .lit (.int .u8 20), .lit (.int .u8 31), .lit (.int .u8 10), .lit (.int .u8 25), .lit (.int .u8 14), .lit (.int .u8 19), .lit (.int .u8 9), .lit (.int .u8 13), .lit (.int .u8 8), .lit (.int .u8 7), .lit (.int .u8 6)]
def laid_internal_strconv_uint64pow10 {H : Type} : DataW H := .agg [.lit (.int .u64 1), .lit (.int .u64 10), .lit (.int .u64 100), .lit (.int .u64 1000), .lit (.int .u64 10000), .lit (.int .u64 100000), .lit (.int .u64 1000000), .lit (.int .u64 10000000), .lit (.int .u64 100000000), .lit (.int .u64 1000000000), .lit (.int .u64 10000000000), .lit (.int .u64 100000000000), .lit (.int .u64 1000000000000), .lit (.int .u64 10000000000000), .lit (.int .u64 100000000000000), .lit (.int .u64 1000000000000000), .lit (.int .u64 10000000000000000), .lit (.int .u64 100000000000000000), .lit (.int .u64 1000000000000000000), .lit (.int .u64 10000000000000000000)]
def laid_verdigris_light_lights {H : Type} : DataW H := .agg [.agg [.lit (.int .i64 44757), .lit (.int .i64 40745), .lit (.int .i64 100000)], .agg [.lit (.int .i64 31006), .lit (.int .i64 31616), .lit (.int .i64 100000)], .agg [.lit (.int .i64 34567), .lit (.int .i64 35850), .lit (.int .i64 100000)], .agg [.lit (.int .i64 33242), .lit (.int .i64 34743), .lit (.int .i64 100000)], .agg [.lit (.int .i64 31272), .lit (.int .i64 32903), .lit (.int .i64 100000)], .agg [.lit (.int .i64 29902), .lit (.int .i64 31485), .lit (.int .i64 100000)], .agg [.lit (.int .i64 1), .lit (.int .i64 1), .lit (.int .i64 3)]]

/-- 'verdigrislaw23.LightMakes': WHATEVER THE INPUT: true; the input reads as it did. -/
def lightMakesSpec : ChangeSpec := { name := "lightMakes", fn := fun _ => fun
  | [d1, d2, d3, d4] => { results := [.lit (.bool true)], args := [d1, d2, d3, d4] }
  | _ => none }
def lightMakesRow : OpenClaim := { program := "ytfilfmadapjajaagreatdoor", sum := "fb1aac86d74755af0d8eb2e753850721bdd7055bad5e53befba2f28cc1517e3c", func := "verdigris/verdigrislaw23.LightMakes", spec := "lightMakes", inPlace := ["internal/abi.NoEscape"], unfollowed := true, recurses := true, named := ["internal/strconv.uint64pow10", "math/bits.deBruijn32tab", "math/bits.deBruijn64tab", "verdigris/light.lights"], apart := false, laid := [("math/bits.deBruijn32tab", laid_math_bits_deBruijn32tab), ("math/bits.deBruijn64tab", laid_math_bits_deBruijn64tab), ("internal/strconv.uint64pow10", laid_internal_strconv_uint64pow10), ("verdigris/light.lights", laid_verdigris_light_lights)] }
def LightMakesSaid : Prop := lightMakesRow.holds Tryz.pinned (OpenSpec.ofChange lightMakesSpec)

/-- ITS FALSE NEIGHBOUR: 'it returns false'. Refute it at one input. -/
def lightMakesWrong : ChangeSpec := { name := "lightMakes", fn := fun _ => fun
  | [d1, d2, d3, d4] => { results := [.lit (.bool false)], args := [d1, d2, d3, d4] }
  | _ => none }
def LightMakesWrongFalsely : Prop := lightMakesRow.holds Tryz.pinned (OpenSpec.ofChange lightMakesWrong)

/-- 'verdigrislaw23.LightPlaces': WHATEVER THE INPUT: true; the input reads as it did. -/
def lightPlacesSpec : ChangeSpec := { name := "lightPlaces", fn := fun _ => fun
  | [d1, d2, d3, d4, d5, d6] => { results := [.lit (.bool true)], args := [d1, d2, d3, d4, d5, d6] }
  | _ => none }
def lightPlacesRow : OpenClaim := { program := "ytfilfmadapjajaagreatdoor", sum := "fb1aac86d74755af0d8eb2e753850721bdd7055bad5e53befba2f28cc1517e3c", func := "verdigris/verdigrislaw23.LightPlaces", spec := "lightPlaces", inPlace := ["internal/abi.NoEscape"], unfollowed := true, recurses := true, named := ["internal/strconv.uint64pow10", "math/bits.deBruijn32tab", "math/bits.deBruijn64tab", "verdigris/light.lights"], apart := false, laid := [("math/bits.deBruijn32tab", laid_math_bits_deBruijn32tab), ("math/bits.deBruijn64tab", laid_math_bits_deBruijn64tab), ("internal/strconv.uint64pow10", laid_internal_strconv_uint64pow10), ("verdigris/light.lights", laid_verdigris_light_lights)] }
def LightPlacesSaid : Prop := lightPlacesRow.holds Tryz.pinned (OpenSpec.ofChange lightPlacesSpec)

/-- ITS FALSE NEIGHBOUR: 'it returns false'. Refute it at one input. -/
def lightPlacesWrong : ChangeSpec := { name := "lightPlaces", fn := fun _ => fun
  | [d1, d2, d3, d4, d5, d6] => { results := [.lit (.bool false)], args := [d1, d2, d3, d4, d5, d6] }
  | _ => none }
def LightPlacesWrongFalsely : Prop := lightPlacesRow.holds Tryz.pinned (OpenSpec.ofChange lightPlacesWrong)

/-- 'verdigrislaw23.LightDays': WHATEVER THE INPUT: true; the input reads as it did. -/
def lightDaysSpec : ChangeSpec := { name := "lightDays", fn := fun _ => fun
  | [d1, d2, d3, d4, d5] => { results := [.lit (.bool true)], args := [d1, d2, d3, d4, d5] }
  | _ => none }
def lightDaysRow : OpenClaim := { program := "ytfilfmadapjajaagreatdoor", sum := "fb1aac86d74755af0d8eb2e753850721bdd7055bad5e53befba2f28cc1517e3c", func := "verdigris/verdigrislaw23.LightDays", spec := "lightDays", inPlace := ["internal/abi.NoEscape"], unfollowed := true, recurses := true, named := ["internal/strconv.uint64pow10", "math/bits.deBruijn32tab", "math/bits.deBruijn64tab", "verdigris/light.lights"], apart := false, laid := [("math/bits.deBruijn32tab", laid_math_bits_deBruijn32tab), ("math/bits.deBruijn64tab", laid_math_bits_deBruijn64tab), ("internal/strconv.uint64pow10", laid_internal_strconv_uint64pow10), ("verdigris/light.lights", laid_verdigris_light_lights)] }
def LightDaysSaid : Prop := lightDaysRow.holds Tryz.pinned (OpenSpec.ofChange lightDaysSpec)

/-- ITS FALSE NEIGHBOUR: 'it returns false'. Refute it at one input. -/
def lightDaysWrong : ChangeSpec := { name := "lightDays", fn := fun _ => fun
  | [d1, d2, d3, d4, d5] => { results := [.lit (.bool false)], args := [d1, d2, d3, d4, d5] }
  | _ => none }
def LightDaysWrongFalsely : Prop := lightDaysRow.holds Tryz.pinned (OpenSpec.ofChange lightDaysWrong)

/-- 'verdigrislaw23.LightMixes': WHATEVER THE INPUT: true; the input reads as it did. -/
def lightMixesSpec : ChangeSpec := { name := "lightMixes", fn := fun _ => fun
  | [d1, d2, d3, d4, d5] => { results := [.lit (.bool true)], args := [d1, d2, d3, d4, d5] }
  | _ => none }
def lightMixesRow : OpenClaim := { program := "ytfilfmadapjajaagreatdoor", sum := "fb1aac86d74755af0d8eb2e753850721bdd7055bad5e53befba2f28cc1517e3c", func := "verdigris/verdigrislaw23.LightMixes", spec := "lightMixes", inPlace := ["internal/abi.NoEscape"], unfollowed := true, recurses := true, named := ["internal/strconv.uint64pow10", "math/bits.deBruijn32tab", "math/bits.deBruijn64tab", "verdigris/light.lights"], apart := false, laid := [("math/bits.deBruijn32tab", laid_math_bits_deBruijn32tab), ("math/bits.deBruijn64tab", laid_math_bits_deBruijn64tab), ("internal/strconv.uint64pow10", laid_internal_strconv_uint64pow10), ("verdigris/light.lights", laid_verdigris_light_lights)] }
def LightMixesSaid : Prop := lightMixesRow.holds Tryz.pinned (OpenSpec.ofChange lightMixesSpec)

/-- ITS FALSE NEIGHBOUR: 'it returns false'. Refute it at one input. -/
def lightMixesWrong : ChangeSpec := { name := "lightMixes", fn := fun _ => fun
  | [d1, d2, d3, d4, d5] => { results := [.lit (.bool false)], args := [d1, d2, d3, d4, d5] }
  | _ => none }
def LightMixesWrongFalsely : Prop := lightMixesRow.holds Tryz.pinned (OpenSpec.ofChange lightMixesWrong)

/-- 'verdigrislaw23.LightLine': WHATEVER THE INPUT: true; the input reads as it did. -/
def lightLineSpec : ChangeSpec := { name := "lightLine", fn := fun _ => fun
  | [d1, d2, d3] => { results := [.lit (.bool true)], args := [d1, d2, d3] }
  | _ => none }
def lightLineRow : OpenClaim := { program := "ytfilfmadapjajaagreatdoor", sum := "fb1aac86d74755af0d8eb2e753850721bdd7055bad5e53befba2f28cc1517e3c", func := "verdigris/verdigrislaw23.LightLine", spec := "lightLine", inPlace := ["internal/abi.NoEscape"], unfollowed := true, recurses := true, named := ["internal/strconv.uint64pow10", "math/bits.deBruijn32tab", "math/bits.deBruijn64tab", "verdigris/light.lights"], apart := false, laid := [("math/bits.deBruijn32tab", laid_math_bits_deBruijn32tab), ("math/bits.deBruijn64tab", laid_math_bits_deBruijn64tab), ("internal/strconv.uint64pow10", laid_internal_strconv_uint64pow10), ("verdigris/light.lights", laid_verdigris_light_lights)] }
def LightLineSaid : Prop := lightLineRow.holds Tryz.pinned (OpenSpec.ofChange lightLineSpec)

/-- ITS FALSE NEIGHBOUR: 'it returns false'. Refute it at one input. -/
def lightLineWrong : ChangeSpec := { name := "lightLine", fn := fun _ => fun
  | [d1, d2, d3] => { results := [.lit (.bool false)], args := [d1, d2, d3] }
  | _ => none }
def LightLineWrongFalsely : Prop := lightLineRow.holds Tryz.pinned (OpenSpec.ofChange lightLineWrong)

/-- 'verdigrislaw23.LightSteps': WHATEVER THE INPUT: true; the input reads as it did. -/
def lightStepsSpec : ChangeSpec := { name := "lightSteps", fn := fun _ => fun
  | [d1, d2, d3, d4] => { results := [.lit (.bool true)], args := [d1, d2, d3, d4] }
  | _ => none }
def lightStepsRow : OpenClaim := { program := "ytfilfmadapjajaagreatdoor", sum := "fb1aac86d74755af0d8eb2e753850721bdd7055bad5e53befba2f28cc1517e3c", func := "verdigris/verdigrislaw23.LightSteps", spec := "lightSteps", inPlace := ["internal/abi.NoEscape"], unfollowed := true, recurses := true, named := ["internal/strconv.uint64pow10", "math/bits.deBruijn32tab", "math/bits.deBruijn64tab", "verdigris/light.lights"], apart := false, laid := [("math/bits.deBruijn32tab", laid_math_bits_deBruijn32tab), ("math/bits.deBruijn64tab", laid_math_bits_deBruijn64tab), ("internal/strconv.uint64pow10", laid_internal_strconv_uint64pow10), ("verdigris/light.lights", laid_verdigris_light_lights)] }
def LightStepsSaid : Prop := lightStepsRow.holds Tryz.pinned (OpenSpec.ofChange lightStepsSpec)

/-- ITS FALSE NEIGHBOUR: 'it returns false'. Refute it at one input. -/
def lightStepsWrong : ChangeSpec := { name := "lightSteps", fn := fun _ => fun
  | [d1, d2, d3, d4] => { results := [.lit (.bool false)], args := [d1, d2, d3, d4] }
  | _ => none }
def LightStepsWrongFalsely : Prop := lightStepsRow.holds Tryz.pinned (OpenSpec.ofChange lightStepsWrong)

/-- 'verdigrislaw23.LightBack': WHATEVER THE INPUT: true; the input reads as it did. -/
def lightBackSpec : ChangeSpec := { name := "lightBack", fn := fun _ => fun
  | [d1, d2, d3] => { results := [.lit (.bool true)], args := [d1, d2, d3] }
  | _ => none }
def lightBackRow : OpenClaim := { program := "ytfilfmadapjajaagreatdoor", sum := "fb1aac86d74755af0d8eb2e753850721bdd7055bad5e53befba2f28cc1517e3c", func := "verdigris/verdigrislaw23.LightBack", spec := "lightBack", inPlace := ["internal/abi.NoEscape"], unfollowed := true, recurses := true, named := ["internal/strconv.uint64pow10", "math/bits.deBruijn32tab", "math/bits.deBruijn64tab", "verdigris/light.lights"], apart := false, laid := [("math/bits.deBruijn32tab", laid_math_bits_deBruijn32tab), ("math/bits.deBruijn64tab", laid_math_bits_deBruijn64tab), ("internal/strconv.uint64pow10", laid_internal_strconv_uint64pow10), ("verdigris/light.lights", laid_verdigris_light_lights)] }
def LightBackSaid : Prop := lightBackRow.holds Tryz.pinned (OpenSpec.ofChange lightBackSpec)

/-- ITS FALSE NEIGHBOUR: 'it returns false'. Refute it at one input. -/
def lightBackWrong : ChangeSpec := { name := "lightBack", fn := fun _ => fun
  | [d1, d2, d3] => { results := [.lit (.bool false)], args := [d1, d2, d3] }
  | _ => none }
def LightBackWrongFalsely : Prop := lightBackRow.holds Tryz.pinned (OpenSpec.ofChange lightBackWrong)

/-- 'verdigrislaw23.LightKnown': WHATEVER THE INPUT: true; the input reads as it did. -/
def lightKnownSpec : ChangeSpec := { name := "lightKnown", fn := fun _ => fun
  | [] => { results := [.lit (.bool true)], args := [] }
  | _ => none }
def lightKnownRow : OpenClaim := { program := "ytfilfmadapjajaagreatdoor", sum := "fb1aac86d74755af0d8eb2e753850721bdd7055bad5e53befba2f28cc1517e3c", func := "verdigris/verdigrislaw23.LightKnown", spec := "lightKnown", inPlace := ["internal/abi.NoEscape"], unfollowed := true, recurses := true, named := ["internal/strconv.uint64pow10", "math/bits.deBruijn32tab", "math/bits.deBruijn64tab", "verdigris/light.lights"], apart := false, laid := [("math/bits.deBruijn32tab", laid_math_bits_deBruijn32tab), ("math/bits.deBruijn64tab", laid_math_bits_deBruijn64tab), ("internal/strconv.uint64pow10", laid_internal_strconv_uint64pow10), ("verdigris/light.lights", laid_verdigris_light_lights)] }
def LightKnownSaid : Prop := lightKnownRow.holds Tryz.pinned (OpenSpec.ofChange lightKnownSpec)

/-- ITS FALSE NEIGHBOUR: 'it returns false'. Refute it at one input. -/
def lightKnownWrong : ChangeSpec := { name := "lightKnown", fn := fun _ => fun
  | [] => { results := [.lit (.bool false)], args := [] }
  | _ => none }
def LightKnownWrongFalsely : Prop := lightKnownRow.holds Tryz.pinned (OpenSpec.ofChange lightKnownWrong)

/- THE SECOND FORM. 'bulk': how many values and letters a reading holds, each counted each time it is reached (what is shared counts as often as it is met; a slice's spare places count too). A statement '..UptoSaid' is the law's where the arguments, and the package variables that the reading takes, are together of bulk at most 1048576: NARROWER than '..Said'. Prove '..Said' where nothing that the law and all that it calls make is longer than what came in: it says more and counts as full. Else prove '..UptoSaid'. A law counts once. -/
mutual
def uptoBulk {H : Type} : DataW H → Nat
  | .lit (.string bytes) => bytes.length + 1
  | .lit _ => 1
  | .nil => 1
  | .ptr d => uptoBulk d + 1
  | .slice elems spare => uptoBulkAll elems + uptoBulkAll spare + 1
  | .agg parts => uptoBulkAll parts + 1
  | .iface _ d => uptoBulk d + 1
  | .map entries => uptoBulkEntries entries + 1
  | .held _ => 1
def uptoBulkAll {H : Type} : List (DataW H) → Nat
  | [] => 0
  | d :: r => uptoBulk d + uptoBulkAll r
def uptoBulkEntries {H : Type} : List (Lit × DataW H) → Nat
  | [] => 0
  | x :: r => uptoBulkEntry x + uptoBulkEntries r
def uptoBulkEntry {H : Type} : Lit × DataW H → Nat
  | (.string bytes, d) => bytes.length + uptoBulk d + 1
  | (_, d) => uptoBulk d + 1
 end
def uptoSmall : (H : Type) → List (DataW H) → Bool := fun _ ds => decide (uptoBulkAll ds ≤ 1048576)
def OpenSpec.upto (s : _root_.Go.ChangeSpec) : _root_.Go.OpenSpec := { _root_.Go.OpenSpec.ofChange s with cond := some uptoSmall }

/-- 'verdigrislaw23.LightMakes', WHERE WHAT IT READS IS OF BULK AT MOST 1048576: true; the input reads as it did. -/
def lightMakesUptoRow : OpenClaim := { program := "ytfilfmadapjajaagreatdoor", sum := "fb1aac86d74755af0d8eb2e753850721bdd7055bad5e53befba2f28cc1517e3c", func := "verdigris/verdigrislaw23.LightMakes", spec := "lightMakes", inPlace := ["internal/abi.NoEscape"], unfollowed := true, recurses := true, named := ["internal/strconv.uint64pow10", "math/bits.deBruijn32tab", "math/bits.deBruijn64tab", "verdigris/light.lights"], apart := false, laid := [("math/bits.deBruijn32tab", laid_math_bits_deBruijn32tab), ("math/bits.deBruijn64tab", laid_math_bits_deBruijn64tab), ("internal/strconv.uint64pow10", laid_internal_strconv_uint64pow10), ("verdigris/light.lights", laid_verdigris_light_lights)], narrowed := true }
def LightMakesUptoSaid : Prop := lightMakesUptoRow.holds Tryz.pinned (OpenSpec.upto lightMakesSpec)

/-- 'verdigrislaw23.LightPlaces', WHERE WHAT IT READS IS OF BULK AT MOST 1048576: true; the input reads as it did. -/
def lightPlacesUptoRow : OpenClaim := { program := "ytfilfmadapjajaagreatdoor", sum := "fb1aac86d74755af0d8eb2e753850721bdd7055bad5e53befba2f28cc1517e3c", func := "verdigris/verdigrislaw23.LightPlaces", spec := "lightPlaces", inPlace := ["internal/abi.NoEscape"], unfollowed := true, recurses := true, named := ["internal/strconv.uint64pow10", "math/bits.deBruijn32tab", "math/bits.deBruijn64tab", "verdigris/light.lights"], apart := false, laid := [("math/bits.deBruijn32tab", laid_math_bits_deBruijn32tab), ("math/bits.deBruijn64tab", laid_math_bits_deBruijn64tab), ("internal/strconv.uint64pow10", laid_internal_strconv_uint64pow10), ("verdigris/light.lights", laid_verdigris_light_lights)], narrowed := true }
def LightPlacesUptoSaid : Prop := lightPlacesUptoRow.holds Tryz.pinned (OpenSpec.upto lightPlacesSpec)

/-- 'verdigrislaw23.LightDays', WHERE WHAT IT READS IS OF BULK AT MOST 1048576: true; the input reads as it did. -/
def lightDaysUptoRow : OpenClaim := { program := "ytfilfmadapjajaagreatdoor", sum := "fb1aac86d74755af0d8eb2e753850721bdd7055bad5e53befba2f28cc1517e3c", func := "verdigris/verdigrislaw23.LightDays", spec := "lightDays", inPlace := ["internal/abi.NoEscape"], unfollowed := true, recurses := true, named := ["internal/strconv.uint64pow10", "math/bits.deBruijn32tab", "math/bits.deBruijn64tab", "verdigris/light.lights"], apart := false, laid := [("math/bits.deBruijn32tab", laid_math_bits_deBruijn32tab), ("math/bits.deBruijn64tab", laid_math_bits_deBruijn64tab), ("internal/strconv.uint64pow10", laid_internal_strconv_uint64pow10), ("verdigris/light.lights", laid_verdigris_light_lights)], narrowed := true }
def LightDaysUptoSaid : Prop := lightDaysUptoRow.holds Tryz.pinned (OpenSpec.upto lightDaysSpec)

/-- 'verdigrislaw23.LightMixes', WHERE WHAT IT READS IS OF BULK AT MOST 1048576: true; the input reads as it did. -/
def lightMixesUptoRow : OpenClaim := { program := "ytfilfmadapjajaagreatdoor", sum := "fb1aac86d74755af0d8eb2e753850721bdd7055bad5e53befba2f28cc1517e3c", func := "verdigris/verdigrislaw23.LightMixes", spec := "lightMixes", inPlace := ["internal/abi.NoEscape"], unfollowed := true, recurses := true, named := ["internal/strconv.uint64pow10", "math/bits.deBruijn32tab", "math/bits.deBruijn64tab", "verdigris/light.lights"], apart := false, laid := [("math/bits.deBruijn32tab", laid_math_bits_deBruijn32tab), ("math/bits.deBruijn64tab", laid_math_bits_deBruijn64tab), ("internal/strconv.uint64pow10", laid_internal_strconv_uint64pow10), ("verdigris/light.lights", laid_verdigris_light_lights)], narrowed := true }
def LightMixesUptoSaid : Prop := lightMixesUptoRow.holds Tryz.pinned (OpenSpec.upto lightMixesSpec)

/-- 'verdigrislaw23.LightLine', WHERE WHAT IT READS IS OF BULK AT MOST 1048576: true; the input reads as it did. -/
def lightLineUptoRow : OpenClaim := { program := "ytfilfmadapjajaagreatdoor", sum := "fb1aac86d74755af0d8eb2e753850721bdd7055bad5e53befba2f28cc1517e3c", func := "verdigris/verdigrislaw23.LightLine", spec := "lightLine", inPlace := ["internal/abi.NoEscape"], unfollowed := true, recurses := true, named := ["internal/strconv.uint64pow10", "math/bits.deBruijn32tab", "math/bits.deBruijn64tab", "verdigris/light.lights"], apart := false, laid := [("math/bits.deBruijn32tab", laid_math_bits_deBruijn32tab), ("math/bits.deBruijn64tab", laid_math_bits_deBruijn64tab), ("internal/strconv.uint64pow10", laid_internal_strconv_uint64pow10), ("verdigris/light.lights", laid_verdigris_light_lights)], narrowed := true }
def LightLineUptoSaid : Prop := lightLineUptoRow.holds Tryz.pinned (OpenSpec.upto lightLineSpec)

/-- 'verdigrislaw23.LightSteps', WHERE WHAT IT READS IS OF BULK AT MOST 1048576: true; the input reads as it did. -/
def lightStepsUptoRow : OpenClaim := { program := "ytfilfmadapjajaagreatdoor", sum := "fb1aac86d74755af0d8eb2e753850721bdd7055bad5e53befba2f28cc1517e3c", func := "verdigris/verdigrislaw23.LightSteps", spec := "lightSteps", inPlace := ["internal/abi.NoEscape"], unfollowed := true, recurses := true, named := ["internal/strconv.uint64pow10", "math/bits.deBruijn32tab", "math/bits.deBruijn64tab", "verdigris/light.lights"], apart := false, laid := [("math/bits.deBruijn32tab", laid_math_bits_deBruijn32tab), ("math/bits.deBruijn64tab", laid_math_bits_deBruijn64tab), ("internal/strconv.uint64pow10", laid_internal_strconv_uint64pow10), ("verdigris/light.lights", laid_verdigris_light_lights)], narrowed := true }
def LightStepsUptoSaid : Prop := lightStepsUptoRow.holds Tryz.pinned (OpenSpec.upto lightStepsSpec)

/-- 'verdigrislaw23.LightBack', WHERE WHAT IT READS IS OF BULK AT MOST 1048576: true; the input reads as it did. -/
def lightBackUptoRow : OpenClaim := { program := "ytfilfmadapjajaagreatdoor", sum := "fb1aac86d74755af0d8eb2e753850721bdd7055bad5e53befba2f28cc1517e3c", func := "verdigris/verdigrislaw23.LightBack", spec := "lightBack", inPlace := ["internal/abi.NoEscape"], unfollowed := true, recurses := true, named := ["internal/strconv.uint64pow10", "math/bits.deBruijn32tab", "math/bits.deBruijn64tab", "verdigris/light.lights"], apart := false, laid := [("math/bits.deBruijn32tab", laid_math_bits_deBruijn32tab), ("math/bits.deBruijn64tab", laid_math_bits_deBruijn64tab), ("internal/strconv.uint64pow10", laid_internal_strconv_uint64pow10), ("verdigris/light.lights", laid_verdigris_light_lights)], narrowed := true }
def LightBackUptoSaid : Prop := lightBackUptoRow.holds Tryz.pinned (OpenSpec.upto lightBackSpec)

/-- 'verdigrislaw23.LightKnown', WHERE WHAT IT READS IS OF BULK AT MOST 1048576: true; the input reads as it did. -/
def lightKnownUptoRow : OpenClaim := { program := "ytfilfmadapjajaagreatdoor", sum := "fb1aac86d74755af0d8eb2e753850721bdd7055bad5e53befba2f28cc1517e3c", func := "verdigris/verdigrislaw23.LightKnown", spec := "lightKnown", inPlace := ["internal/abi.NoEscape"], unfollowed := true, recurses := true, named := ["internal/strconv.uint64pow10", "math/bits.deBruijn32tab", "math/bits.deBruijn64tab", "verdigris/light.lights"], apart := false, laid := [("math/bits.deBruijn32tab", laid_math_bits_deBruijn32tab), ("math/bits.deBruijn64tab", laid_math_bits_deBruijn64tab), ("internal/strconv.uint64pow10", laid_internal_strconv_uint64pow10), ("verdigris/light.lights", laid_verdigris_light_lights)], narrowed := true }
def LightKnownUptoSaid : Prop := lightKnownUptoRow.holds Tryz.pinned (OpenSpec.upto lightKnownSpec)

end Rows
end Go.Proofs.YtfilfmadapjajaaGreatDoor
