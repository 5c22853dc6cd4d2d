/-
  NARROWER THAN 'FOR EVERY INPUT', by the rows' own cells (each row's printed sentence says how): SimplexSwaps: laid · SimplexWeights: laid · SimplexCorners: laid · SimplexLinear: laid · SimplexWithin: laid · SimplexKnown: laid · SimplexRefined: laid.
  DERIVED. THE GIVEN ROWS OF THIS SEAT. 7 by the template 'for every input the law returns true; each argument reads behind the call as it read before'; 0 by the template 'total and deterministic' (their statements: YtgjgpdceghjajaaGreatDoorTotals.lean).
  GIVEN WITH THE SEED: the statements are not yours to turn. If you find one false, say at which input.
  Laid BY PROGRAM, IN A SANDBOX (cutbox-rows.mjs): the forced cells as the released guide's own fill.sh prints them over the translation f6b9c42a9fa7d667… (all of the seat's roots in one cut). By AI agents, Wed Nov 11 2026. No macro, syntax, notation, axiom, sorry.
-/
import Derived.Test.YtgjgpdceghjajaaGreatDoorChecked
import GoSem.Claim
import GoSem.ClaimJoined
import GoSem.ClaimMapViews
import Derived.JoinedTies
import Derived.KernelRfl
namespace Go.Proofs.YtgjgpdceghjajaaGreatDoor
/- THE CELL 'sum', in the pinned program and in every row, IS THE sha256 OF THE DUMP (.gsa) THAT YtgjgpdceghjajaaGreatDoorProg.lean LOADS. Nothing in Lean hashes anything: it is a label: what it is worth is what the hold of that sum in a sandbox is worth. -/
noncomputable def Tryz.pinned : Pinned := { name := "ytgjgpdceghjajaagreatdoor", sum := "f6b9c42a9fa7d66736da7da41daef3b42daeb11ab170d1f8fa47167dbb2866e8", checked := Tryz.checked }
namespace Rows
def none {H : Type} : Left H := { results := [], args := [] }

/- WHAT THE LISTED PACKAGE-LEVEL VARIABLES READ AS WHEN THE CALL BEGINS. Each datum BY PROGRAM (the guide's laid-datum.mjs) off the statement by which the dump's own 'gosem.cut.vars' lays the variable. In a bare row this is a premise. The card (YtgjgpdceghjajaaGreatDoorCards.lean) ties it to the program's text. -/
def laid_math_bits_deBruijn32tab {H : Type} : DataW H := .agg [.lit (.int .u8 0), .lit (.int .u8 1), .lit (.int .u8 28), .lit (.int .u8 2), .lit (.int .u8 29), .lit (.int .u8 14), .lit (.int .u8 24), .lit (.int .u8 3), .lit (.int .u8 30), .lit (.int .u8 22), .lit (.int .u8 20), .lit (.int .u8 15), .lit (.int .u8 25), .lit (.int .u8 17), .lit (.int .u8 4), .lit (.int .u8 8), .lit (.int .u8 31), .lit (.int .u8 27), .lit (.int .u8 13), .lit (.int .u8 23), .lit (.int .u8 21), .lit (.int .u8 19), .lit (.int .u8 16), .lit (.int .u8 7), .lit (.int .u8 26), .lit (.int .u8 12), .lit (.int .u8 18), .lit (.int .u8 6), .lit (.int .u8 11), .lit (.int .u8 5), .lit (.int .u8 10), .lit (.int .u8 9)]
def laid_math_bits_deBruijn64tab {H : Type} : DataW H := .agg [.lit (.int .u8 0), .lit (.int .u8 1), .lit (.int .u8 56), .lit (.int .u8 2), .lit (.int .u8 57), .lit (.int .u8 49), .lit (.int .u8 28), .lit (.int .u8 3), .lit (.int .u8 61), .lit (.int .u8 58), .lit (.int .u8 42), .lit (.int .u8 50), .lit (.int .u8 38), .lit (.int .u8 29), .lit (.int .u8 17), .lit (.int .u8 4), .lit (.int .u8 62), .lit (.int .u8 47), .lit (.int .u8 59), .lit (.int .u8 36), .lit (.int .u8 45), .lit (.int .u8 43), .lit (.int .u8 51), .lit (.int .u8 22), .lit (.int .u8 53), .lit (.int .u8 39), .lit (.int .u8 33), .lit (.int .u8 30), .lit (.int .u8 24), .lit (.int .u8 18), .lit (.int .u8 12), .lit (.int .u8 5), .lit (.int .u8 63), .lit (.int .u8 55), .lit (.int .u8 48), .lit (.int .u8 27), .lit (.int .u8 60), .lit (.int .u8 41), .lit (.int .u8 37), .lit (.int .u8 16), .lit (.int .u8 46), .lit (.int .u8 35), .lit (.int .u8 44), .lit (.int .u8 21), .lit (.int .u8 52), .lit (.int .u8 32), .lit (.int .u8 23), .lit (.int .u8 11), .lit (.int .u8 54), .lit (.int .u8 26), .lit (.int .u8 40), .lit (.int .u8 15), .lit (.int .u8 34), .lit (.int .u8 20), .lit (.int .u8 31), .lit (.int .u8 10), .lit (.int .u8 25), .lit (.int .u8 14), .lit (.int .u8 19), .lit (.int .u8 9), .lit (.int .u8 13), .lit (.int .u8 8), .lit (.int .u8 7), .lit (.int .u8 6)]
def laid_internal_strconv_uint64pow10 {H : Type} : DataW H := .agg [.lit (.int .u64 1), .lit (.int .u64 10), .lit (.int .u64 100), .lit (.int .u64 1000), .lit (.int .u64 10000), .lit (.int .u64 100000), .lit (.int .u64 1000000), .lit (.int .u64 10000000), .lit (.int .u64 100000000), .lit (.int .u64 1000000000), .lit (.int .u64 10000000000), .lit (.int .u64 100000000000), .lit (.int .u64 1000000000000), .lit (.int .u64 10000000000000), .lit (.int .u64 100000000000000), .lit (.int .u64 1000000000000000), .lit (.int .u64 10000000000000000), .lit (.int .u64 100000000000000000), .lit (.int .u64 1000000000000000000), .lit (.int .u64 10000000000000000000)]
def laid_strconv_ErrRange {H : Type} : DataW H := .iface "*errors.errorString" (.ptr (.agg [.lit (.string [118, 97, 108, 117, 101, 32, 111, 117, 116, 32, 111, 102, 32, 114, 97, 110, 103, 101])]))
def laid_strconv_ErrSyntax {H : Type} : DataW H := .iface "*errors.errorString" (.ptr (.agg [.lit (.string [105, 110, 118, 97, 108, 105, 100, 32, 115, 121, 110, 116, 97, 120])]))

/-- 'verdigrislaw11.SimplexSwaps': WHATEVER THE INPUT: true; the input reads as it did. -/
def simplexSwapsSpec : ChangeSpec := { name := "simplexSwaps", fn := fun _ => fun
  | [d1, d2, d3, d4] => { results := [.lit (.bool true)], args := [d1, d2, d3, d4] }
  | _ => none }
def simplexSwapsRow : OpenClaim := { program := "ytgjgpdceghjajaagreatdoor", sum := "f6b9c42a9fa7d66736da7da41daef3b42daeb11ab170d1f8fa47167dbb2866e8", func := "verdigris/verdigrislaw11.SimplexSwaps", spec := "simplexSwaps", inPlace := ["internal/abi.NoEscape"], unfollowed := true, recurses := true, named := ["internal/strconv.uint64pow10", "math/bits.deBruijn32tab", "math/bits.deBruijn64tab", "strconv.ErrSyntax", "strconv.ErrRange"], apart := false, laid := [("math/bits.deBruijn32tab", laid_math_bits_deBruijn32tab), ("math/bits.deBruijn64tab", laid_math_bits_deBruijn64tab), ("internal/strconv.uint64pow10", laid_internal_strconv_uint64pow10), ("strconv.ErrRange", laid_strconv_ErrRange), ("strconv.ErrSyntax", laid_strconv_ErrSyntax)] }
def SimplexSwapsSaid : Prop := simplexSwapsRow.holds Tryz.pinned (OpenSpec.ofChange simplexSwapsSpec)

/-- ITS FALSE NEIGHBOUR: 'it returns false'. Refute it at one input. -/
def simplexSwapsWrong : ChangeSpec := { name := "simplexSwaps", fn := fun _ => fun
  | [d1, d2, d3, d4] => { results := [.lit (.bool false)], args := [d1, d2, d3, d4] }
  | _ => none }
def SimplexSwapsWrongFalsely : Prop := simplexSwapsRow.holds Tryz.pinned (OpenSpec.ofChange simplexSwapsWrong)

/-- 'verdigrislaw11.SimplexWeights': WHATEVER THE INPUT: true; the input reads as it did. -/
def simplexWeightsSpec : ChangeSpec := { name := "simplexWeights", fn := fun _ => fun
  | [d1, d2] => { results := [.lit (.bool true)], args := [d1, d2] }
  | _ => none }
def simplexWeightsRow : OpenClaim := { program := "ytgjgpdceghjajaagreatdoor", sum := "f6b9c42a9fa7d66736da7da41daef3b42daeb11ab170d1f8fa47167dbb2866e8", func := "verdigris/verdigrislaw11.SimplexWeights", spec := "simplexWeights", inPlace := ["internal/abi.NoEscape"], unfollowed := true, recurses := true, named := ["internal/strconv.uint64pow10", "math/bits.deBruijn32tab", "math/bits.deBruijn64tab", "strconv.ErrSyntax", "strconv.ErrRange"], apart := false, laid := [("math/bits.deBruijn32tab", laid_math_bits_deBruijn32tab), ("math/bits.deBruijn64tab", laid_math_bits_deBruijn64tab), ("internal/strconv.uint64pow10", laid_internal_strconv_uint64pow10), ("strconv.ErrRange", laid_strconv_ErrRange), ("strconv.ErrSyntax", laid_strconv_ErrSyntax)] }
def SimplexWeightsSaid : Prop := simplexWeightsRow.holds Tryz.pinned (OpenSpec.ofChange simplexWeightsSpec)

/-- ITS FALSE NEIGHBOUR: 'it returns false'. Refute it at one input. -/
def simplexWeightsWrong : ChangeSpec := { name := "simplexWeights", fn := fun _ => fun
  | [d1, d2] => { results := [.lit (.bool false)], args := [d1, d2] }
  | _ => none }
def SimplexWeightsWrongFalsely : Prop := simplexWeightsRow.holds Tryz.pinned (OpenSpec.ofChange simplexWeightsWrong)

/-- 'verdigrislaw11.SimplexCorners': WHATEVER THE INPUT: true; the input reads as it did. -/
def simplexCornersSpec : ChangeSpec := { name := "simplexCorners", fn := fun _ => fun
  | [d1, d2, d3] => { results := [.lit (.bool true)], args := [d1, d2, d3] }
  | _ => none }
def simplexCornersRow : OpenClaim := { program := "ytgjgpdceghjajaagreatdoor", sum := "f6b9c42a9fa7d66736da7da41daef3b42daeb11ab170d1f8fa47167dbb2866e8", func := "verdigris/verdigrislaw11.SimplexCorners", spec := "simplexCorners", inPlace := ["internal/abi.NoEscape"], unfollowed := true, recurses := true, named := ["internal/strconv.uint64pow10", "math/bits.deBruijn32tab", "math/bits.deBruijn64tab", "strconv.ErrSyntax", "strconv.ErrRange"], apart := false, laid := [("math/bits.deBruijn32tab", laid_math_bits_deBruijn32tab), ("math/bits.deBruijn64tab", laid_math_bits_deBruijn64tab), ("internal/strconv.uint64pow10", laid_internal_strconv_uint64pow10), ("strconv.ErrRange", laid_strconv_ErrRange), ("strconv.ErrSyntax", laid_strconv_ErrSyntax)] }
def SimplexCornersSaid : Prop := simplexCornersRow.holds Tryz.pinned (OpenSpec.ofChange simplexCornersSpec)

/-- ITS FALSE NEIGHBOUR: 'it returns false'. Refute it at one input. -/
def simplexCornersWrong : ChangeSpec := { name := "simplexCorners", fn := fun _ => fun
  | [d1, d2, d3] => { results := [.lit (.bool false)], args := [d1, d2, d3] }
  | _ => none }
def SimplexCornersWrongFalsely : Prop := simplexCornersRow.holds Tryz.pinned (OpenSpec.ofChange simplexCornersWrong)

/-- 'verdigrislaw11.SimplexLinear': WHATEVER THE INPUT: true; the input reads as it did. -/
def simplexLinearSpec : ChangeSpec := { name := "simplexLinear", fn := fun _ => fun
  | [d1, d2, d3, d4] => { results := [.lit (.bool true)], args := [d1, d2, d3, d4] }
  | _ => none }
def simplexLinearRow : OpenClaim := { program := "ytgjgpdceghjajaagreatdoor", sum := "f6b9c42a9fa7d66736da7da41daef3b42daeb11ab170d1f8fa47167dbb2866e8", func := "verdigris/verdigrislaw11.SimplexLinear", spec := "simplexLinear", inPlace := ["internal/abi.NoEscape"], unfollowed := true, recurses := true, named := ["internal/strconv.uint64pow10", "math/bits.deBruijn32tab", "math/bits.deBruijn64tab", "strconv.ErrSyntax", "strconv.ErrRange"], apart := false, laid := [("math/bits.deBruijn32tab", laid_math_bits_deBruijn32tab), ("math/bits.deBruijn64tab", laid_math_bits_deBruijn64tab), ("internal/strconv.uint64pow10", laid_internal_strconv_uint64pow10), ("strconv.ErrRange", laid_strconv_ErrRange), ("strconv.ErrSyntax", laid_strconv_ErrSyntax)] }
def SimplexLinearSaid : Prop := simplexLinearRow.holds Tryz.pinned (OpenSpec.ofChange simplexLinearSpec)

/-- ITS FALSE NEIGHBOUR: 'it returns false'. Refute it at one input. -/
def simplexLinearWrong : ChangeSpec := { name := "simplexLinear", fn := fun _ => fun
  | [d1, d2, d3, d4] => { results := [.lit (.bool false)], args := [d1, d2, d3, d4] }
  | _ => none }
def SimplexLinearWrongFalsely : Prop := simplexLinearRow.holds Tryz.pinned (OpenSpec.ofChange simplexLinearWrong)

/-- 'verdigrislaw11.SimplexWithin': WHATEVER THE INPUT: true; the input reads as it did. -/
def simplexWithinSpec : ChangeSpec := { name := "simplexWithin", fn := fun _ => fun
  | [d1, d2, d3] => { results := [.lit (.bool true)], args := [d1, d2, d3] }
  | _ => none }
def simplexWithinRow : OpenClaim := { program := "ytgjgpdceghjajaagreatdoor", sum := "f6b9c42a9fa7d66736da7da41daef3b42daeb11ab170d1f8fa47167dbb2866e8", func := "verdigris/verdigrislaw11.SimplexWithin", spec := "simplexWithin", inPlace := ["internal/abi.NoEscape"], unfollowed := true, recurses := true, named := ["internal/strconv.uint64pow10", "math/bits.deBruijn32tab", "math/bits.deBruijn64tab", "strconv.ErrSyntax", "strconv.ErrRange"], apart := false, laid := [("math/bits.deBruijn32tab", laid_math_bits_deBruijn32tab), ("math/bits.deBruijn64tab", laid_math_bits_deBruijn64tab), ("internal/strconv.uint64pow10", laid_internal_strconv_uint64pow10), ("strconv.ErrRange", laid_strconv_ErrRange), ("strconv.ErrSyntax", laid_strconv_ErrSyntax)] }
def SimplexWithinSaid : Prop := simplexWithinRow.holds Tryz.pinned (OpenSpec.ofChange simplexWithinSpec)

/-- ITS FALSE NEIGHBOUR: 'it returns false'. Refute it at one input. -/
def simplexWithinWrong : ChangeSpec := { name := "simplexWithin", fn := fun _ => fun
  | [d1, d2, d3] => { results := [.lit (.bool false)], args := [d1, d2, d3] }
  | _ => none }
def SimplexWithinWrongFalsely : Prop := simplexWithinRow.holds Tryz.pinned (OpenSpec.ofChange simplexWithinWrong)

/-- 'verdigrislaw11.SimplexKnown': WHATEVER THE INPUT: true; the input reads as it did. -/
def simplexKnownSpec : ChangeSpec := { name := "simplexKnown", fn := fun _ => fun
  | [] => { results := [.lit (.bool true)], args := [] }
  | _ => none }
def simplexKnownRow : OpenClaim := { program := "ytgjgpdceghjajaagreatdoor", sum := "f6b9c42a9fa7d66736da7da41daef3b42daeb11ab170d1f8fa47167dbb2866e8", func := "verdigris/verdigrislaw11.SimplexKnown", spec := "simplexKnown", inPlace := ["internal/abi.NoEscape"], unfollowed := true, recurses := true, named := ["internal/strconv.uint64pow10", "math/bits.deBruijn32tab", "math/bits.deBruijn64tab", "strconv.ErrSyntax", "strconv.ErrRange"], apart := false, laid := [("math/bits.deBruijn32tab", laid_math_bits_deBruijn32tab), ("math/bits.deBruijn64tab", laid_math_bits_deBruijn64tab), ("internal/strconv.uint64pow10", laid_internal_strconv_uint64pow10), ("strconv.ErrRange", laid_strconv_ErrRange), ("strconv.ErrSyntax", laid_strconv_ErrSyntax)] }
def SimplexKnownSaid : Prop := simplexKnownRow.holds Tryz.pinned (OpenSpec.ofChange simplexKnownSpec)

/-- ITS FALSE NEIGHBOUR: 'it returns false'. Refute it at one input. -/
def simplexKnownWrong : ChangeSpec := { name := "simplexKnown", fn := fun _ => fun
  | [] => { results := [.lit (.bool false)], args := [] }
  | _ => none }
def SimplexKnownWrongFalsely : Prop := simplexKnownRow.holds Tryz.pinned (OpenSpec.ofChange simplexKnownWrong)

/-- 'verdigrislaw11.SimplexRefined': WHATEVER THE INPUT: true; the input reads as it did. -/
def simplexRefinedSpec : ChangeSpec := { name := "simplexRefined", fn := fun _ => fun
  | [d1, d2] => { results := [.lit (.bool true)], args := [d1, d2] }
  | _ => none }
def simplexRefinedRow : OpenClaim := { program := "ytgjgpdceghjajaagreatdoor", sum := "f6b9c42a9fa7d66736da7da41daef3b42daeb11ab170d1f8fa47167dbb2866e8", func := "verdigris/verdigrislaw11.SimplexRefined", spec := "simplexRefined", inPlace := ["internal/abi.NoEscape"], unfollowed := true, recurses := true, named := ["internal/strconv.uint64pow10", "math/bits.deBruijn32tab", "math/bits.deBruijn64tab", "strconv.ErrSyntax", "strconv.ErrRange"], apart := false, laid := [("math/bits.deBruijn32tab", laid_math_bits_deBruijn32tab), ("math/bits.deBruijn64tab", laid_math_bits_deBruijn64tab), ("internal/strconv.uint64pow10", laid_internal_strconv_uint64pow10), ("strconv.ErrRange", laid_strconv_ErrRange), ("strconv.ErrSyntax", laid_strconv_ErrSyntax)] }
def SimplexRefinedSaid : Prop := simplexRefinedRow.holds Tryz.pinned (OpenSpec.ofChange simplexRefinedSpec)

/-- ITS FALSE NEIGHBOUR: 'it returns false'. Refute it at one input. -/
def simplexRefinedWrong : ChangeSpec := { name := "simplexRefined", fn := fun _ => fun
  | [d1, d2] => { results := [.lit (.bool false)], args := [d1, d2] }
  | _ => none }
def SimplexRefinedWrongFalsely : Prop := simplexRefinedRow.holds Tryz.pinned (OpenSpec.ofChange simplexRefinedWrong)

/- THE SECOND FORM. 'bulk': how many values and letters a reading holds, each counted each time it is reached (what is shared counts as often as it is met; a slice's spare places count too). A statement '..UptoSaid' is the law's where the arguments, and the package variables that the reading takes, are together of bulk at most 1048576: NARROWER than '..Said'. Prove '..Said' where nothing that the law and all that it calls make is longer than what came in: it says more and counts as full. Else prove '..UptoSaid'. A law counts once. -/
mutual
def uptoBulk {H : Type} : DataW H → Nat
  | .lit (.string bytes) => bytes.length + 1
  | .lit _ => 1
  | .nil => 1
  | .ptr d => uptoBulk d + 1
  | .slice elems spare => uptoBulkAll elems + uptoBulkAll spare + 1
  | .agg parts => uptoBulkAll parts + 1
  | .iface _ d => uptoBulk d + 1
  | .map entries => uptoBulkEntries entries + 1
  | .held _ => 1
def uptoBulkAll {H : Type} : List (DataW H) → Nat
  | [] => 0
  | d :: r => uptoBulk d + uptoBulkAll r
def uptoBulkEntries {H : Type} : List (Lit × DataW H) → Nat
  | [] => 0
  | x :: r => uptoBulkEntry x + uptoBulkEntries r
def uptoBulkEntry {H : Type} : Lit × DataW H → Nat
  | (.string bytes, d) => bytes.length + uptoBulk d + 1
  | (_, d) => uptoBulk d + 1
 end
def uptoSmall : (H : Type) → List (DataW H) → Bool := fun _ ds => decide (uptoBulkAll ds ≤ 1048576)
def OpenSpec.upto (s : _root_.Go.ChangeSpec) : _root_.Go.OpenSpec := { _root_.Go.OpenSpec.ofChange s with cond := some uptoSmall }

/-- 'verdigrislaw11.SimplexSwaps', WHERE WHAT IT READS IS OF BULK AT MOST 1048576: true; the input reads as it did. -/
def simplexSwapsUptoRow : OpenClaim := { program := "ytgjgpdceghjajaagreatdoor", sum := "f6b9c42a9fa7d66736da7da41daef3b42daeb11ab170d1f8fa47167dbb2866e8", func := "verdigris/verdigrislaw11.SimplexSwaps", spec := "simplexSwaps", inPlace := ["internal/abi.NoEscape"], unfollowed := true, recurses := true, named := ["internal/strconv.uint64pow10", "math/bits.deBruijn32tab", "math/bits.deBruijn64tab", "strconv.ErrSyntax", "strconv.ErrRange"], apart := false, laid := [("math/bits.deBruijn32tab", laid_math_bits_deBruijn32tab), ("math/bits.deBruijn64tab", laid_math_bits_deBruijn64tab), ("internal/strconv.uint64pow10", laid_internal_strconv_uint64pow10), ("strconv.ErrRange", laid_strconv_ErrRange), ("strconv.ErrSyntax", laid_strconv_ErrSyntax)], narrowed := true }
def SimplexSwapsUptoSaid : Prop := simplexSwapsUptoRow.holds Tryz.pinned (OpenSpec.upto simplexSwapsSpec)

/-- 'verdigrislaw11.SimplexWeights', WHERE WHAT IT READS IS OF BULK AT MOST 1048576: true; the input reads as it did. -/
def simplexWeightsUptoRow : OpenClaim := { program := "ytgjgpdceghjajaagreatdoor", sum := "f6b9c42a9fa7d66736da7da41daef3b42daeb11ab170d1f8fa47167dbb2866e8", func := "verdigris/verdigrislaw11.SimplexWeights", spec := "simplexWeights", inPlace := ["internal/abi.NoEscape"], unfollowed := true, recurses := true, named := ["internal/strconv.uint64pow10", "math/bits.deBruijn32tab", "math/bits.deBruijn64tab", "strconv.ErrSyntax", "strconv.ErrRange"], apart := false, laid := [("math/bits.deBruijn32tab", laid_math_bits_deBruijn32tab), ("math/bits.deBruijn64tab", laid_math_bits_deBruijn64tab), ("internal/strconv.uint64pow10", laid_internal_strconv_uint64pow10), ("strconv.ErrRange", laid_strconv_ErrRange), ("strconv.ErrSyntax", laid_strconv_ErrSyntax)], narrowed := true }
def SimplexWeightsUptoSaid : Prop := simplexWeightsUptoRow.holds Tryz.pinned (OpenSpec.upto simplexWeightsSpec)

/-- 'verdigrislaw11.SimplexCorners', WHERE WHAT IT READS IS OF BULK AT MOST 1048576: true; the input reads as it did. -/
def simplexCornersUptoRow : OpenClaim := { program := "ytgjgpdceghjajaagreatdoor", sum := "f6b9c42a9fa7d66736da7da41daef3b42daeb11ab170d1f8fa47167dbb2866e8", func := "verdigris/verdigrislaw11.SimplexCorners", spec := "simplexCorners", inPlace := ["internal/abi.NoEscape"], unfollowed := true, recurses := true, named := ["internal/strconv.uint64pow10", "math/bits.deBruijn32tab", "math/bits.deBruijn64tab", "strconv.ErrSyntax", "strconv.ErrRange"], apart := false, laid := [("math/bits.deBruijn32tab", laid_math_bits_deBruijn32tab), ("math/bits.deBruijn64tab", laid_math_bits_deBruijn64tab), ("internal/strconv.uint64pow10", laid_internal_strconv_uint64pow10), ("strconv.ErrRange", laid_strconv_ErrRange), ("strconv.ErrSyntax", laid_strconv_ErrSyntax)], narrowed := true }
def SimplexCornersUptoSaid : Prop := simplexCornersUptoRow.holds Tryz.pinned (OpenSpec.upto simplexCornersSpec)

/-- 'verdigrislaw11.SimplexLinear', WHERE WHAT IT READS IS OF BULK AT MOST 1048576: true; the input reads as it did. -/
def simplexLinearUptoRow : OpenClaim := { program := "ytgjgpdceghjajaagreatdoor", sum := "f6b9c42a9fa7d66736da7da41daef3b42daeb11ab170d1f8fa47167dbb2866e8", func := "verdigris/verdigrislaw11.SimplexLinear", spec := "simplexLinear", inPlace := ["internal/abi.NoEscape"], unfollowed := true, recurses := true, named := ["internal/strconv.uint64pow10", "math/bits.deBruijn32tab", "math/bits.deBruijn64tab", "strconv.ErrSyntax", "strconv.ErrRange"], apart := false, laid := [("math/bits.deBruijn32tab", laid_math_bits_deBruijn32tab), ("math/bits.deBruijn64tab", laid_math_bits_deBruijn64tab), ("internal/strconv.uint64pow10", laid_internal_strconv_uint64pow10), ("strconv.ErrRange", laid_strconv_ErrRange), ("strconv.ErrSyntax", laid_strconv_ErrSyntax)], narrowed := true }
def SimplexLinearUptoSaid : Prop := simplexLinearUptoRow.holds Tryz.pinned (OpenSpec.upto simplexLinearSpec)

/-- 'verdigrislaw11.SimplexWithin', WHERE WHAT IT READS IS OF BULK AT MOST 1048576: true; the input reads as it did. -/
def simplexWithinUptoRow : OpenClaim := { program := "ytgjgpdceghjajaagreatdoor", sum := "f6b9c42a9fa7d66736da7da41daef3b42daeb11ab170d1f8fa47167dbb2866e8", func := "verdigris/verdigrislaw11.SimplexWithin", spec := "simplexWithin", inPlace := ["internal/abi.NoEscape"], unfollowed := true, recurses := true, named := ["internal/strconv.uint64pow10", "math/bits.deBruijn32tab", "math/bits.deBruijn64tab", "strconv.ErrSyntax", "strconv.ErrRange"], apart := false, laid := [("math/bits.deBruijn32tab", laid_math_bits_deBruijn32tab), ("math/bits.deBruijn64tab", laid_math_bits_deBruijn64tab), ("internal/strconv.uint64pow10", laid_internal_strconv_uint64pow10), ("strconv.ErrRange", laid_strconv_ErrRange), ("strconv.ErrSyntax", laid_strconv_ErrSyntax)], narrowed := true }
def SimplexWithinUptoSaid : Prop := simplexWithinUptoRow.holds Tryz.pinned (OpenSpec.upto simplexWithinSpec)

/-- 'verdigrislaw11.SimplexKnown', WHERE WHAT IT READS IS OF BULK AT MOST 1048576: true; the input reads as it did. -/
def simplexKnownUptoRow : OpenClaim := { program := "ytgjgpdceghjajaagreatdoor", sum := "f6b9c42a9fa7d66736da7da41daef3b42daeb11ab170d1f8fa47167dbb2866e8", func := "verdigris/verdigrislaw11.SimplexKnown", spec := "simplexKnown", inPlace := ["internal/abi.NoEscape"], unfollowed := true, recurses := true, named := ["internal/strconv.uint64pow10", "math/bits.deBruijn32tab", "math/bits.deBruijn64tab", "strconv.ErrSyntax", "strconv.ErrRange"], apart := false, laid := [("math/bits.deBruijn32tab", laid_math_bits_deBruijn32tab), ("math/bits.deBruijn64tab", laid_math_bits_deBruijn64tab), ("internal/strconv.uint64pow10", laid_internal_strconv_uint64pow10), ("strconv.ErrRange", laid_strconv_ErrRange), ("strconv.ErrSyntax", laid_strconv_ErrSyntax)], narrowed := true }
def SimplexKnownUptoSaid : Prop := simplexKnownUptoRow.holds Tryz.pinned (OpenSpec.upto simplexKnownSpec)

/-- 'verdigrislaw11.SimplexRefined', WHERE WHAT IT READS IS OF BULK AT MOST 1048576: true; the input reads as it did. -/
def simplexRefinedUptoRow : OpenClaim := { program := "ytgjgpdceghjajaagreatdoor", sum := "f6b9c42a9fa7d66736da7da41daef3b42daeb11ab170d1f8fa47167dbb2866e8", func := "verdigris/verdigrislaw11.SimplexRefined", spec := "simplexRefined", inPlace := ["internal/abi.NoEscape"], unfollowed := true, recurses := true, named := ["internal/strconv.uint64pow10", "math/bits.deBruijn32tab", "math/bits.deBruijn64tab", "strconv.ErrSyntax", "strconv.ErrRange"], apart := false, laid := [("math/bits.deBruijn32tab", laid_math_bits_deBruijn32tab), ("math/bits.deBruijn64tab", laid_math_bits_deBruijn64tab), ("internal/strconv.uint64pow10", laid_internal_strconv_uint64pow10), ("strconv.ErrRange", laid_strconv_ErrRange), ("strconv.ErrSyntax", laid_strconv_ErrSyntax)], narrowed := true }
def SimplexRefinedUptoSaid : Prop := simplexRefinedUptoRow.holds Tryz.pinned (OpenSpec.upto simplexRefinedSpec)

end Rows
end Go.Proofs.YtgjgpdceghjajaaGreatDoor
