/-
  NARROWER THAN 'FOR EVERY INPUT', by the rows' own cells (each row's printed sentence says how): TopCobaltRounds: laid · RoundNumbers: laid · RoundValues: laid · RoundOperators: laid · RoundComplex: laid · RoundField: laid · RoundExact: laid · RoundMonotone: laid.
  DERIVED. THE GIVEN ROWS OF THIS SEAT. 8 by the template 'for every input the law returns true; each argument reads behind the call as it read before'; 0 by the template 'total and deterministic' (their statements: YtnjbinpbkjdjpaaGreatDoorTotals.lean).
  GIVEN WITH THE SEED: the statements are not yours to turn. If you find one false, say at which input.
  Laid BY PROGRAM, IN A SANDBOX (cutbox-rows.mjs): the forced cells as the released guide's own fill.sh prints them over the translation 9005b43f8f771033… (all of the seat's roots in one cut). By AI agents, Wed Nov 11 2026. No macro, syntax, notation, axiom, sorry.
-/
import Derived.Test.YtnjbinpbkjdjpaaGreatDoorChecked
import GoSem.Claim
import GoSem.ClaimJoined
import GoSem.ClaimMapViews
import Derived.JoinedTies
import Derived.KernelRfl
namespace Go.Proofs.YtnjbinpbkjdjpaaGreatDoor
/- THE CELL 'sum', in the pinned program and in every row, IS THE sha256 OF THE DUMP (.gsa) THAT YtnjbinpbkjdjpaaGreatDoorProg.lean LOADS. Nothing in Lean hashes anything: it is a label: what it is worth is what the hold of that sum in a sandbox is worth. -/
noncomputable def Tryz.pinned : Pinned := { name := "ytnjbinpbkjdjpaagreatdoor", sum := "9005b43f8f7710332b2caa13a83a84ac554d1001a25dd4ac5f7a7f859d3ebc3c", checked := Tryz.checked }
namespace Rows
def none {H : Type} : Left H := { results := [], args := [] }

/- WHAT THE LISTED PACKAGE-LEVEL VARIABLES READ AS WHEN THE CALL BEGINS. Each datum BY PROGRAM (the guide's laid-datum.mjs) off the statement by which the dump's own 'gosem.cut.vars' lays the variable. In a bare row this is a premise. The card (YtnjbinpbkjdjpaaGreatDoorCards.lean) ties it to the program's text. -/
def laid_math_bits_deBruijn32tab {H : Type} : DataW H := .agg [.lit (.int .u8 0), .lit (.int .u8 1), .lit (.int .u8 28), .lit (.int .u8 2), .lit (.int .u8 29), .lit (.int .u8 14), .lit (.int .u8 24), .lit (.int .u8 3), .lit (.int .u8 30), .lit (.int .u8 22), .lit (.int .u8 20), .lit (.int .u8 15), .lit (.int .u8 25), .lit (.int .u8 17), .lit (.int .u8 4), .lit (.int .u8 8), .lit (.int .u8 31), .lit (.int .u8 27), .lit (.int .u8 13), .lit (.int .u8 23), .lit (.int .u8 21), .lit (.int .u8 19), .lit (.int .u8 16), .lit (.int .u8 7), .lit (.int .u8 26), .lit (.int .u8 12), .lit (.int .u8 18), .lit (.int .u8 6), .lit (.int .u8 11), .lit (.int .u8 5), .lit (.int .u8 10), .lit (.int .u8 9)]
def laid_math_bits_deBruijn64tab {H : Type} : DataW H := .agg [.lit (.int .u8 0), .lit (.int .u8 1), .lit (.int .u8 56), .lit (.int .u8 2), .lit (.int .u8 57), .lit (.int .u8 49), .lit (.int .u8 28), .lit (.int .u8 3), .lit (.int .u8 61), .lit (.int .u8 58), .lit (.int .u8 42), .lit (.int .u8 50), .lit (.int .u8 38), .lit (.int .u8 29), .lit (.int .u8 17), .lit (.int .u8 4), .lit (.int .u8 62), .lit (.int .u8 47), .lit (.int .u8 59), .lit (.int .u8 36), .lit (.int .u8 45), .lit (.int .u8 43), .lit (.int .u8 51), .lit (.int .u8 22), .lit (.int .u8 53), .lit (.int .u8 39), .lit (.int .u8 33), .lit (.int .u8 30), .lit (.int .u8 24), .lit (.int .u8 18), .lit (.int .u8 12), .lit (.int .u8 5), .lit (.int .u8 63), .lit (.int .u8 55), .lit (.int .u8 48), .lit (.int .u8 27), .lit (.int .u8 60), .lit (.int .u8 41), .lit (.int .u8 37), .lit (.int .u8 16), .lit (.int .u8 46), .lit (.int .u8 35), .lit (.int .u8 44), .lit (.int .u8 21), .lit (.int .u8 52), .lit (.int .u8 32), .lit (.int .u8 23), .lit (.int .u8 11), .lit (.int .u8 54), .lit (.int .u8 26), .lit (.int .u8 40), .lit (.int .u8 15), .lit (.int .u8 34), .lit (.int .u8 20), .lit (.int .u8 31), .lit (.int .u8 10), .lit (.int .u8 25), .lit (.int .u8 14), .lit (.int .u8 19), .lit (.int .u8 9), .lit (.int .u8 13), .lit (.int .u8 8), .lit (.int .u8 7), .lit (.int .u8 6)]
def laid_internal_strconv_uint64pow10 {H : Type} : DataW H := .agg [.lit (.int .u64 1), .lit (.int .u64 10), .lit (.int .u64 100), .lit (.int .u64 1000), .lit (.int .u64 10000), .lit (.int .u64 100000), .lit (.int .u64 1000000), .lit (.int .u64 10000000), .lit (.int .u64 100000000), .lit (.int .u64 1000000000), .lit (.int .u64 10000000000), .lit (.int .u64 100000000000), .lit (.int .u64 1000000000000), .lit (.int .u64 10000000000000), .lit (.int .u64 100000000000000), .lit (.int .u64 1000000000000000), .lit (.int .u64 10000000000000000), .lit (.int .u64 100000000000000000), .lit (.int .u64 1000000000000000000), .lit (.int .u64 10000000000000000000)]

/-- 'entailtop.TopCobaltRounds': WHATEVER THE INPUT: true; the input reads as it did. -/
def topCobaltRoundsSpec : ChangeSpec := { name := "topCobaltRounds", fn := fun _ => fun
  | [d1, d2, d3] => { results := [.lit (.bool true)], args := [d1, d2, d3] }
  | _ => none }
def topCobaltRoundsRow : OpenClaim := { program := "ytnjbinpbkjdjpaagreatdoor", sum := "9005b43f8f7710332b2caa13a83a84ac554d1001a25dd4ac5f7a7f859d3ebc3c", func := "entail/entailtop.TopCobaltRounds", spec := "topCobaltRounds", inPlace := ["internal/bytealg.IndexByteString", "internal/bytealg.IndexString", "math.Float64bits", "math.Float64frombits", "math.Float32bits", "internal/abi.NoEscape", "internal/bytealg.MakeNoZero", "math.Float32frombits"], unfollowed := true, recurses := true, named := ["internal/bytealg.MaxLen", "internal/strconv.uint64pow10", "math/bits.deBruijn32tab", "math/bits.deBruijn64tab"], apart := false, laid := [("math/bits.deBruijn32tab", laid_math_bits_deBruijn32tab), ("math/bits.deBruijn64tab", laid_math_bits_deBruijn64tab), ("internal/strconv.uint64pow10", laid_internal_strconv_uint64pow10)] }
def TopCobaltRoundsSaid : Prop := topCobaltRoundsRow.holds Tryz.pinned (OpenSpec.ofChange topCobaltRoundsSpec)

/-- ITS FALSE NEIGHBOUR: 'it returns false'. Refute it at one input. -/
def topCobaltRoundsWrong : ChangeSpec := { name := "topCobaltRounds", fn := fun _ => fun
  | [d1, d2, d3] => { results := [.lit (.bool false)], args := [d1, d2, d3] }
  | _ => none }
def TopCobaltRoundsWrongFalsely : Prop := topCobaltRoundsRow.holds Tryz.pinned (OpenSpec.ofChange topCobaltRoundsWrong)

/-- 'entaillaw38.RoundNumbers': WHATEVER THE INPUT: true; the input reads as it did. -/
def roundNumbersSpec : ChangeSpec := { name := "roundNumbers", fn := fun _ => fun
  | [d1, d2] => { results := [.lit (.bool true)], args := [d1, d2] }
  | _ => none }
def roundNumbersRow : OpenClaim := { program := "ytnjbinpbkjdjpaagreatdoor", sum := "9005b43f8f7710332b2caa13a83a84ac554d1001a25dd4ac5f7a7f859d3ebc3c", func := "entail/entaillaw38.RoundNumbers", spec := "roundNumbers", inPlace := ["internal/bytealg.IndexByteString", "internal/bytealg.IndexString", "math.Float64bits", "math.Float64frombits", "internal/abi.NoEscape", "internal/bytealg.MakeNoZero", "math.Float32bits", "math.Float32frombits"], unfollowed := true, recurses := true, named := ["internal/bytealg.MaxLen", "internal/strconv.uint64pow10", "math/bits.deBruijn32tab", "math/bits.deBruijn64tab"], apart := false, laid := [("math/bits.deBruijn32tab", laid_math_bits_deBruijn32tab), ("math/bits.deBruijn64tab", laid_math_bits_deBruijn64tab), ("internal/strconv.uint64pow10", laid_internal_strconv_uint64pow10)] }
def RoundNumbersSaid : Prop := roundNumbersRow.holds Tryz.pinned (OpenSpec.ofChange roundNumbersSpec)

/-- ITS FALSE NEIGHBOUR: 'it returns false'. Refute it at one input. -/
def roundNumbersWrong : ChangeSpec := { name := "roundNumbers", fn := fun _ => fun
  | [d1, d2] => { results := [.lit (.bool false)], args := [d1, d2] }
  | _ => none }
def RoundNumbersWrongFalsely : Prop := roundNumbersRow.holds Tryz.pinned (OpenSpec.ofChange roundNumbersWrong)

/-- 'entaillaw38.RoundValues': WHATEVER THE INPUT: true; the input reads as it did. -/
def roundValuesSpec : ChangeSpec := { name := "roundValues", fn := fun _ => fun
  | [d1, d2, d3] => { results := [.lit (.bool true)], args := [d1, d2, d3] }
  | _ => none }
def roundValuesRow : OpenClaim := { program := "ytnjbinpbkjdjpaagreatdoor", sum := "9005b43f8f7710332b2caa13a83a84ac554d1001a25dd4ac5f7a7f859d3ebc3c", func := "entail/entaillaw38.RoundValues", spec := "roundValues", inPlace := ["internal/bytealg.IndexByteString", "internal/bytealg.IndexString", "math.Float64bits", "math.Float64frombits", "internal/abi.NoEscape", "internal/bytealg.MakeNoZero", "math.Float32bits", "math.Float32frombits"], unfollowed := true, recurses := true, named := ["internal/bytealg.MaxLen", "internal/strconv.uint64pow10", "math/bits.deBruijn32tab", "math/bits.deBruijn64tab"], apart := false, laid := [("math/bits.deBruijn32tab", laid_math_bits_deBruijn32tab), ("math/bits.deBruijn64tab", laid_math_bits_deBruijn64tab), ("internal/strconv.uint64pow10", laid_internal_strconv_uint64pow10)] }
def RoundValuesSaid : Prop := roundValuesRow.holds Tryz.pinned (OpenSpec.ofChange roundValuesSpec)

/-- ITS FALSE NEIGHBOUR: 'it returns false'. Refute it at one input. -/
def roundValuesWrong : ChangeSpec := { name := "roundValues", fn := fun _ => fun
  | [d1, d2, d3] => { results := [.lit (.bool false)], args := [d1, d2, d3] }
  | _ => none }
def RoundValuesWrongFalsely : Prop := roundValuesRow.holds Tryz.pinned (OpenSpec.ofChange roundValuesWrong)

/-- 'entaillaw38.RoundOperators': WHATEVER THE INPUT: true; the input reads as it did. -/
def roundOperatorsSpec : ChangeSpec := { name := "roundOperators", fn := fun _ => fun
  | [d1, d2] => { results := [.lit (.bool true)], args := [d1, d2] }
  | _ => none }
def roundOperatorsRow : OpenClaim := { program := "ytnjbinpbkjdjpaagreatdoor", sum := "9005b43f8f7710332b2caa13a83a84ac554d1001a25dd4ac5f7a7f859d3ebc3c", func := "entail/entaillaw38.RoundOperators", spec := "roundOperators", inPlace := ["internal/bytealg.IndexByteString", "internal/bytealg.IndexString", "math.Float64bits", "math.Float64frombits", "internal/abi.NoEscape", "internal/bytealg.MakeNoZero", "math.Float32bits", "math.Float32frombits"], unfollowed := true, recurses := true, named := ["internal/bytealg.MaxLen", "internal/strconv.uint64pow10", "math/bits.deBruijn32tab", "math/bits.deBruijn64tab"], apart := false, laid := [("math/bits.deBruijn32tab", laid_math_bits_deBruijn32tab), ("math/bits.deBruijn64tab", laid_math_bits_deBruijn64tab), ("internal/strconv.uint64pow10", laid_internal_strconv_uint64pow10)] }
def RoundOperatorsSaid : Prop := roundOperatorsRow.holds Tryz.pinned (OpenSpec.ofChange roundOperatorsSpec)

/-- ITS FALSE NEIGHBOUR: 'it returns false'. Refute it at one input. -/
def roundOperatorsWrong : ChangeSpec := { name := "roundOperators", fn := fun _ => fun
  | [d1, d2] => { results := [.lit (.bool false)], args := [d1, d2] }
  | _ => none }
def RoundOperatorsWrongFalsely : Prop := roundOperatorsRow.holds Tryz.pinned (OpenSpec.ofChange roundOperatorsWrong)

/-- 'entaillaw38.RoundComplex': WHATEVER THE INPUT: true; the input reads as it did. -/
def roundComplexSpec : ChangeSpec := { name := "roundComplex", fn := fun _ => fun
  | [d1, d2, d3] => { results := [.lit (.bool true)], args := [d1, d2, d3] }
  | _ => none }
def roundComplexRow : OpenClaim := { program := "ytnjbinpbkjdjpaagreatdoor", sum := "9005b43f8f7710332b2caa13a83a84ac554d1001a25dd4ac5f7a7f859d3ebc3c", func := "entail/entaillaw38.RoundComplex", spec := "roundComplex", inPlace := ["internal/bytealg.IndexByteString", "internal/bytealg.IndexString", "math.Float64bits", "math.Float64frombits", "internal/abi.NoEscape", "internal/bytealg.MakeNoZero", "math.Float32bits", "math.Float32frombits"], unfollowed := true, recurses := true, named := ["internal/bytealg.MaxLen", "internal/strconv.uint64pow10", "math/bits.deBruijn32tab", "math/bits.deBruijn64tab"], apart := false, laid := [("math/bits.deBruijn32tab", laid_math_bits_deBruijn32tab), ("math/bits.deBruijn64tab", laid_math_bits_deBruijn64tab), ("internal/strconv.uint64pow10", laid_internal_strconv_uint64pow10)] }
def RoundComplexSaid : Prop := roundComplexRow.holds Tryz.pinned (OpenSpec.ofChange roundComplexSpec)

/-- ITS FALSE NEIGHBOUR: 'it returns false'. Refute it at one input. -/
def roundComplexWrong : ChangeSpec := { name := "roundComplex", fn := fun _ => fun
  | [d1, d2, d3] => { results := [.lit (.bool false)], args := [d1, d2, d3] }
  | _ => none }
def RoundComplexWrongFalsely : Prop := roundComplexRow.holds Tryz.pinned (OpenSpec.ofChange roundComplexWrong)

/-- 'entaillaw38.RoundField': WHATEVER THE INPUT: true; the input reads as it did. -/
def roundFieldSpec : ChangeSpec := { name := "roundField", fn := fun _ => fun
  | [d1, d2] => { results := [.lit (.bool true)], args := [d1, d2] }
  | _ => none }
def roundFieldRow : OpenClaim := { program := "ytnjbinpbkjdjpaagreatdoor", sum := "9005b43f8f7710332b2caa13a83a84ac554d1001a25dd4ac5f7a7f859d3ebc3c", func := "entail/entaillaw38.RoundField", spec := "roundField", inPlace := ["internal/bytealg.IndexByteString", "internal/bytealg.IndexString", "math.Float64bits", "math.Float64frombits", "internal/abi.NoEscape", "internal/bytealg.MakeNoZero", "math.Float32bits"], unfollowed := true, recurses := true, named := ["internal/bytealg.MaxLen", "internal/strconv.uint64pow10", "math/bits.deBruijn32tab", "math/bits.deBruijn64tab"], apart := false, laid := [("math/bits.deBruijn32tab", laid_math_bits_deBruijn32tab), ("math/bits.deBruijn64tab", laid_math_bits_deBruijn64tab), ("internal/strconv.uint64pow10", laid_internal_strconv_uint64pow10)] }
def RoundFieldSaid : Prop := roundFieldRow.holds Tryz.pinned (OpenSpec.ofChange roundFieldSpec)

/-- ITS FALSE NEIGHBOUR: 'it returns false'. Refute it at one input. -/
def roundFieldWrong : ChangeSpec := { name := "roundField", fn := fun _ => fun
  | [d1, d2] => { results := [.lit (.bool false)], args := [d1, d2] }
  | _ => none }
def RoundFieldWrongFalsely : Prop := roundFieldRow.holds Tryz.pinned (OpenSpec.ofChange roundFieldWrong)

/-- 'entaillaw38.RoundExact': WHATEVER THE INPUT: true; the input reads as it did. -/
def roundExactSpec : ChangeSpec := { name := "roundExact", fn := fun _ => fun
  | [d1, d2] => { results := [.lit (.bool true)], args := [d1, d2] }
  | _ => none }
def roundExactRow : OpenClaim := { program := "ytnjbinpbkjdjpaagreatdoor", sum := "9005b43f8f7710332b2caa13a83a84ac554d1001a25dd4ac5f7a7f859d3ebc3c", func := "entail/entaillaw38.RoundExact", spec := "roundExact", inPlace := ["internal/bytealg.IndexByteString", "internal/bytealg.IndexString", "math.Float64bits", "math.Float64frombits", "internal/abi.NoEscape", "internal/bytealg.MakeNoZero", "math.Float32bits", "math.Float32frombits"], unfollowed := true, recurses := true, named := ["internal/bytealg.MaxLen", "internal/strconv.uint64pow10", "math/bits.deBruijn32tab", "math/bits.deBruijn64tab"], apart := false, laid := [("math/bits.deBruijn32tab", laid_math_bits_deBruijn32tab), ("math/bits.deBruijn64tab", laid_math_bits_deBruijn64tab), ("internal/strconv.uint64pow10", laid_internal_strconv_uint64pow10)] }
def RoundExactSaid : Prop := roundExactRow.holds Tryz.pinned (OpenSpec.ofChange roundExactSpec)

/-- ITS FALSE NEIGHBOUR: 'it returns false'. Refute it at one input. -/
def roundExactWrong : ChangeSpec := { name := "roundExact", fn := fun _ => fun
  | [d1, d2] => { results := [.lit (.bool false)], args := [d1, d2] }
  | _ => none }
def RoundExactWrongFalsely : Prop := roundExactRow.holds Tryz.pinned (OpenSpec.ofChange roundExactWrong)

/-- 'entaillaw38.RoundMonotone': WHATEVER THE INPUT: true; the input reads as it did. -/
def roundMonotoneSpec : ChangeSpec := { name := "roundMonotone", fn := fun _ => fun
  | [d1, d2] => { results := [.lit (.bool true)], args := [d1, d2] }
  | _ => none }
def roundMonotoneRow : OpenClaim := { program := "ytnjbinpbkjdjpaagreatdoor", sum := "9005b43f8f7710332b2caa13a83a84ac554d1001a25dd4ac5f7a7f859d3ebc3c", func := "entail/entaillaw38.RoundMonotone", spec := "roundMonotone", inPlace := ["internal/bytealg.IndexByteString", "internal/bytealg.IndexString", "math.Float64bits", "math.Float64frombits", "internal/abi.NoEscape", "internal/bytealg.MakeNoZero", "math.Float32bits"], unfollowed := true, recurses := true, named := ["internal/bytealg.MaxLen", "internal/strconv.uint64pow10", "math/bits.deBruijn32tab", "math/bits.deBruijn64tab"], apart := false, laid := [("math/bits.deBruijn32tab", laid_math_bits_deBruijn32tab), ("math/bits.deBruijn64tab", laid_math_bits_deBruijn64tab), ("internal/strconv.uint64pow10", laid_internal_strconv_uint64pow10)] }
def RoundMonotoneSaid : Prop := roundMonotoneRow.holds Tryz.pinned (OpenSpec.ofChange roundMonotoneSpec)

/-- ITS FALSE NEIGHBOUR: 'it returns false'. Refute it at one input. -/
def roundMonotoneWrong : ChangeSpec := { name := "roundMonotone", fn := fun _ => fun
  | [d1, d2] => { results := [.lit (.bool false)], args := [d1, d2] }
  | _ => none }
def RoundMonotoneWrongFalsely : Prop := roundMonotoneRow.holds Tryz.pinned (OpenSpec.ofChange roundMonotoneWrong)

/- THE SECOND FORM. 'bulk': how many values and letters a reading holds, each counted each time it is reached (what is shared counts as often as it is met; a slice's spare places count too). A statement '..UptoSaid' is the law's where the arguments, and the package variables that the reading takes, are together of bulk at most 1048576: NARROWER than '..Said'. Prove '..Said' where nothing that the law and all that it calls make is longer than what came in: it says more and counts as full. Else prove '..UptoSaid'. A law counts once. -/
mutual
def uptoBulk {H : Type} : DataW H → Nat
  | .lit (.string bytes) => bytes.length + 1
  | .lit _ => 1
  | .nil => 1
  | .ptr d => uptoBulk d + 1
  | .slice elems spare => uptoBulkAll elems + uptoBulkAll spare + 1
  | .agg parts => uptoBulkAll parts + 1
  | .iface _ d => uptoBulk d + 1
  | .map entries => uptoBulkEntries entries + 1
  | .held _ => 1
def uptoBulkAll {H : Type} : List (DataW H) → Nat
  | [] => 0
  | d :: r => uptoBulk d + uptoBulkAll r
def uptoBulkEntries {H : Type} : List (Lit × DataW H) → Nat
  | [] => 0
  | x :: r => uptoBulkEntry x + uptoBulkEntries r
def uptoBulkEntry {H : Type} : Lit × DataW H → Nat
  | (.string bytes, d) => bytes.length + uptoBulk d + 1
  | (_, d) => uptoBulk d + 1
 end
def uptoSmall : (H : Type) → List (DataW H) → Bool := fun _ ds => decide (uptoBulkAll ds ≤ 1048576)
def OpenSpec.upto (s : _root_.Go.ChangeSpec) : _root_.Go.OpenSpec := { _root_.Go.OpenSpec.ofChange s with cond := some uptoSmall }

/-- 'entailtop.TopCobaltRounds', WHERE WHAT IT READS IS OF BULK AT MOST 1048576: true; the input reads as it did. -/
def topCobaltRoundsUptoRow : OpenClaim := { program := "ytnjbinpbkjdjpaagreatdoor", sum := "9005b43f8f7710332b2caa13a83a84ac554d1001a25dd4ac5f7a7f859d3ebc3c", func := "entail/entailtop.TopCobaltRounds", spec := "topCobaltRounds", inPlace := ["internal/bytealg.IndexByteString", "internal/bytealg.IndexString", "math.Float64bits", "math.Float64frombits", "math.Float32bits", "internal/abi.NoEscape", "internal/bytealg.MakeNoZero", "math.Float32frombits"], unfollowed := true, recurses := true, named := ["internal/bytealg.MaxLen", "internal/strconv.uint64pow10", "math/bits.deBruijn32tab", "math/bits.deBruijn64tab"], apart := false, laid := [("math/bits.deBruijn32tab", laid_math_bits_deBruijn32tab), ("math/bits.deBruijn64tab", laid_math_bits_deBruijn64tab), ("internal/strconv.uint64pow10", laid_internal_strconv_uint64pow10)], narrowed := true }
def TopCobaltRoundsUptoSaid : Prop := topCobaltRoundsUptoRow.holds Tryz.pinned (OpenSpec.upto topCobaltRoundsSpec)

/-- 'entaillaw38.RoundNumbers', WHERE WHAT IT READS IS OF BULK AT MOST 1048576: true; the input reads as it did. -/
def roundNumbersUptoRow : OpenClaim := { program := "ytnjbinpbkjdjpaagreatdoor", sum := "9005b43f8f7710332b2caa13a83a84ac554d1001a25dd4ac5f7a7f859d3ebc3c", func := "entail/entaillaw38.RoundNumbers", spec := "roundNumbers", inPlace := ["internal/bytealg.IndexByteString", "internal/bytealg.IndexString", "math.Float64bits", "math.Float64frombits", "internal/abi.NoEscape", "internal/bytealg.MakeNoZero", "math.Float32bits", "math.Float32frombits"], unfollowed := true, recurses := true, named := ["internal/bytealg.MaxLen", "internal/strconv.uint64pow10", "math/bits.deBruijn32tab", "math/bits.deBruijn64tab"], apart := false, laid := [("math/bits.deBruijn32tab", laid_math_bits_deBruijn32tab), ("math/bits.deBruijn64tab", laid_math_bits_deBruijn64tab), ("internal/strconv.uint64pow10", laid_internal_strconv_uint64pow10)], narrowed := true }
def RoundNumbersUptoSaid : Prop := roundNumbersUptoRow.holds Tryz.pinned (OpenSpec.upto roundNumbersSpec)

/-- 'entaillaw38.RoundValues', WHERE WHAT IT READS IS OF BULK AT MOST 1048576: true; the input reads as it did. -/
def roundValuesUptoRow : OpenClaim := { program := "ytnjbinpbkjdjpaagreatdoor", sum := "9005b43f8f7710332b2caa13a83a84ac554d1001a25dd4ac5f7a7f859d3ebc3c", func := "entail/entaillaw38.RoundValues", spec := "roundValues", inPlace := ["internal/bytealg.IndexByteString", "internal/bytealg.IndexString", "math.Float64bits", "math.Float64frombits", "internal/abi.NoEscape", "internal/bytealg.MakeNoZero", "math.Float32bits", "math.Float32frombits"], unfollowed := true, recurses := true, named := ["internal/bytealg.MaxLen", "internal/strconv.uint64pow10", "math/bits.deBruijn32tab", "math/bits.deBruijn64tab"], apart := false, laid := [("math/bits.deBruijn32tab", laid_math_bits_deBruijn32tab), ("math/bits.deBruijn64tab", laid_math_bits_deBruijn64tab), ("internal/strconv.uint64pow10", laid_internal_strconv_uint64pow10)], narrowed := true }
def RoundValuesUptoSaid : Prop := roundValuesUptoRow.holds Tryz.pinned (OpenSpec.upto roundValuesSpec)

/-- 'entaillaw38.RoundOperators', WHERE WHAT IT READS IS OF BULK AT MOST 1048576: true; the input reads as it did. -/
def roundOperatorsUptoRow : OpenClaim := { program := "ytnjbinpbkjdjpaagreatdoor", sum := "9005b43f8f7710332b2caa13a83a84ac554d1001a25dd4ac5f7a7f859d3ebc3c", func := "entail/entaillaw38.RoundOperators", spec := "roundOperators", inPlace := ["internal/bytealg.IndexByteString", "internal/bytealg.IndexString", "math.Float64bits", "math.Float64frombits", "internal/abi.NoEscape", "internal/bytealg.MakeNoZero", "math.Float32bits", "math.Float32frombits"], unfollowed := true, recurses := true, named := ["internal/bytealg.MaxLen", "internal/strconv.uint64pow10", "math/bits.deBruijn32tab", "math/bits.deBruijn64tab"], apart := false, laid := [("math/bits.deBruijn32tab", laid_math_bits_deBruijn32tab), ("math/bits.deBruijn64tab", laid_math_bits_deBruijn64tab), ("internal/strconv.uint64pow10", laid_internal_strconv_uint64pow10)], narrowed := true }
def RoundOperatorsUptoSaid : Prop := roundOperatorsUptoRow.holds Tryz.pinned (OpenSpec.upto roundOperatorsSpec)

/-- 'entaillaw38.RoundComplex', WHERE WHAT IT READS IS OF BULK AT MOST 1048576: true; the input reads as it did. -/
def roundComplexUptoRow : OpenClaim := { program := "ytnjbinpbkjdjpaagreatdoor", sum := "9005b43f8f7710332b2caa13a83a84ac554d1001a25dd4ac5f7a7f859d3ebc3c", func := "entail/entaillaw38.RoundComplex", spec := "roundComplex", inPlace := ["internal/bytealg.IndexByteString", "internal/bytealg.IndexString", "math.Float64bits", "math.Float64frombits", "internal/abi.NoEscape", "internal/bytealg.MakeNoZero", "math.Float32bits", "math.Float32frombits"], unfollowed := true, recurses := true, named := ["internal/bytealg.MaxLen", "internal/strconv.uint64pow10", "math/bits.deBruijn32tab", "math/bits.deBruijn64tab"], apart := false, laid := [("math/bits.deBruijn32tab", laid_math_bits_deBruijn32tab), ("math/bits.deBruijn64tab", laid_math_bits_deBruijn64tab), ("internal/strconv.uint64pow10", laid_internal_strconv_uint64pow10)], narrowed := true }
def RoundComplexUptoSaid : Prop := roundComplexUptoRow.holds Tryz.pinned (OpenSpec.upto roundComplexSpec)

/-- 'entaillaw38.RoundField', WHERE WHAT IT READS IS OF BULK AT MOST 1048576: true; the input reads as it did. -/
def roundFieldUptoRow : OpenClaim := { program := "ytnjbinpbkjdjpaagreatdoor", sum := "9005b43f8f7710332b2caa13a83a84ac554d1001a25dd4ac5f7a7f859d3ebc3c", func := "entail/entaillaw38.RoundField", spec := "roundField", inPlace := ["internal/bytealg.IndexByteString", "internal/bytealg.IndexString", "math.Float64bits", "math.Float64frombits", "internal/abi.NoEscape", "internal/bytealg.MakeNoZero", "math.Float32bits"], unfollowed := true, recurses := true, named := ["internal/bytealg.MaxLen", "internal/strconv.uint64pow10", "math/bits.deBruijn32tab", "math/bits.deBruijn64tab"], apart := false, laid := [("math/bits.deBruijn32tab", laid_math_bits_deBruijn32tab), ("math/bits.deBruijn64tab", laid_math_bits_deBruijn64tab), ("internal/strconv.uint64pow10", laid_internal_strconv_uint64pow10)], narrowed := true }
def RoundFieldUptoSaid : Prop := roundFieldUptoRow.holds Tryz.pinned (OpenSpec.upto roundFieldSpec)

/-- 'entaillaw38.RoundExact', WHERE WHAT IT READS IS OF BULK AT MOST 1048576: true; the input reads as it did. -/
def roundExactUptoRow : OpenClaim := { program := "ytnjbinpbkjdjpaagreatdoor", sum := "9005b43f8f7710332b2caa13a83a84ac554d1001a25dd4ac5f7a7f859d3ebc3c", func := "entail/entaillaw38.RoundExact", spec := "roundExact", inPlace := ["internal/bytealg.IndexByteString", "internal/bytealg.IndexString", "math.Float64bits", "math.Float64frombits", "internal/abi.NoEscape", "internal/bytealg.MakeNoZero", "math.Float32bits", "math.Float32frombits"], unfollowed := true, recurses := true, named := ["internal/bytealg.MaxLen", "internal/strconv.uint64pow10", "math/bits.deBruijn32tab", "math/bits.deBruijn64tab"], apart := false, laid := [("math/bits.deBruijn32tab", laid_math_bits_deBruijn32tab), ("math/bits.deBruijn64tab", laid_math_bits_deBruijn64tab), ("internal/strconv.uint64pow10", laid_internal_strconv_uint64pow10)], narrowed := true }
def RoundExactUptoSaid : Prop := roundExactUptoRow.holds Tryz.pinned (OpenSpec.upto roundExactSpec)

/-- 'entaillaw38.RoundMonotone', WHERE WHAT IT READS IS OF BULK AT MOST 1048576: true; the input reads as it did. -/
def roundMonotoneUptoRow : OpenClaim := { program := "ytnjbinpbkjdjpaagreatdoor", sum := "9005b43f8f7710332b2caa13a83a84ac554d1001a25dd4ac5f7a7f859d3ebc3c", func := "entail/entaillaw38.RoundMonotone", spec := "roundMonotone", inPlace := ["internal/bytealg.IndexByteString", "internal/bytealg.IndexString", "math.Float64bits", "math.Float64frombits", "internal/abi.NoEscape", "internal/bytealg.MakeNoZero", "math.Float32bits"], unfollowed := true, recurses := true, named := ["internal/bytealg.MaxLen", "internal/strconv.uint64pow10", "math/bits.deBruijn32tab", "math/bits.deBruijn64tab"], apart := false, laid := [("math/bits.deBruijn32tab", laid_math_bits_deBruijn32tab), ("math/bits.deBruijn64tab", laid_math_bits_deBruijn64tab), ("internal/strconv.uint64pow10", laid_internal_strconv_uint64pow10)], narrowed := true }
def RoundMonotoneUptoSaid : Prop := roundMonotoneUptoRow.holds Tryz.pinned (OpenSpec.upto roundMonotoneSpec)

end Rows
end Go.Proofs.YtnjbinpbkjdjpaaGreatDoor
