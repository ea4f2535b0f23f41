/-
  NARROWER THAN 'FOR EVERY INPUT', by the rows' own cells (each row's printed sentence says how): ScriptPrints: laid · ScriptAgain: laid · ScriptRefuses: laid · ScriptLong: laid · ScriptReads: laid · ScriptBack: laid · ScriptCuts: laid · ScriptJoins: laid.
  DERIVED. THE GIVEN ROWS OF THIS SEAT. 8 by the template 'for every input the law returns true; each argument reads behind the call as it read before'; 0 by the template 'total and deterministic' (their statements: YtgeheffhdpeddaaDoorTotals.lean).
  GIVEN WITH THE SEED: the statements are not yours to turn. If you find one false, say at which input.
  Laid BY PROGRAM, IN A SANDBOX (cutbox-rows.mjs): the forced cells as the released guide's own fill.sh prints them over the translation 66bd12700649acfb… (all of the seat's roots in one cut). By AI agents, Wed Nov 11 2026. No macro, syntax, notation, axiom, sorry.
-/
import Derived.Test.YtgeheffhdpeddaaDoorChecked
import GoSem.Claim
import GoSem.ClaimJoined
import GoSem.ClaimMapViews
import Derived.JoinedTies
import Derived.KernelRfl
namespace Go.Proofs.YtgeheffhdpeddaaDoor
/- THE CELL 'sum', in the pinned program and in every row, IS THE sha256 OF THE DUMP (.gsa) THAT YtgeheffhdpeddaaDoorProg.lean LOADS. Nothing in Lean hashes anything: it is a label: what it is worth is what the hold of that sum in a sandbox is worth. -/
noncomputable def Tryd.pinned : Pinned := { name := "ytgeheffhdpeddaadoor", sum := "66bd12700649acfbeb9b795294c0b8eadd7f60ef7b179a562250438f56a934e9", checked := Tryd.checked }
namespace Rows
def none {H : Type} : Left H := { results := [], args := [] }

/- WHAT THE LISTED PACKAGE-LEVEL VARIABLES READ AS WHEN THE CALL BEGINS. Each datum BY PROGRAM (the guide's laid-datum.mjs) off the statement by which the dump's own 'gosem.cut.vars' lays the variable. In a bare row this is a premise. The card (YtgeheffhdpeddaaDoorCards.lean) ties it to the program's text. -/
def laid_math_bits_deBruijn32tab {H : Type} : DataW H := .agg [.lit (.int .u8 0), .lit (.int .u8 1), .lit (.int .u8 28), .lit (.int .u8 2), .lit (.int .u8 29), .lit (.int .u8 14), .lit (.int .u8 24), .lit (.int .u8 3), .lit (.int .u8 30), .lit (.int .u8 22), .lit (.int .u8 20), .lit (.int .u8 15), .lit (.int .u8 25), .lit (.int .u8 17), .lit (.int .u8 4), .lit (.int .u8 8), .lit (.int .u8 31), .lit (.int .u8 27), .lit (.int .u8 13), .lit (.int .u8 23), .lit (.int .u8 21), .lit (.int .u8 19), .lit (.int .u8 16), .lit (.int .u8 7), .lit (.int .u8 26), .lit (.int .u8 12), .lit (.int .u8 18), .lit (.int .u8 6), .lit (.int .u8 11), .lit (.int .u8 5), .lit (.int .u8 10), .lit (.int .u8 9)]
def laid_math_bits_deBruijn64tab {H : Type} : DataW H := .agg [.lit (.int .u8 0), .lit (.int .u8 1), .lit (.int .u8 56), .lit (.int .u8 2), .lit (.int .u8 57), .lit (.int .u8 49), .lit (.int .u8 28), .lit (.int .u8 3), .lit (.int .u8 61), .lit (.int .u8 58), .lit (.int .u8 42), .lit (.int .u8 50), .lit (.int .u8 38), .lit (.int .u8 29), .lit (.int .u8 17), .lit (.int .u8 4), .lit (.int .u8 62), .lit (.int .u8 47), .lit (.int .u8 59), .lit (.int .u8 36), .lit (.int .u8 45), .lit (.int .u8 43), .lit (.int .u8 51), .lit (.int .u8 22), .lit (.int .u8 53), .lit (.int .u8 39), .lit (.int .u8 33), .lit (.int .u8 30), .lit (.int .u8 24), .lit (.int .u8 18), .lit (.int .u8 12), .lit (.int .u8 5), .lit (.int .u8 63), .lit (.int .u8 55), .lit (.int .u8 48), .lit (.int .u8 27), .lit (.int .u8 60), .lit (.int .u8 41), .lit (.int .u8 37), .lit (.int .u8 16), .lit (.int .u8 46), .lit (.int .u8 35), .lit (.int .u8 44), .lit (.int .u8 21), .lit (.int .u8 52), .lit (.int .u8 32), .lit (.int .u8 23), .lit (.int .u8 11), .lit (.int .u8 54), .lit (.int .u8 26), .lit (.int .u8 40), .lit (.int .u8 15), .lit (.int .u8 34), .lit (.int .u8 20), .lit (.int .u8 31), .lit (.int .u8 10), .lit (.int .u8 25), .lit (.int .u8 14), .lit (.int .u8 19), .lit (.int .u8 9), .lit (.int .u8 13), .lit (.int .u8 8), .lit (.int .u8 7), .lit (.int .u8 6)]
def laid_internal_strconv_uint64pow10 {H : Type} : DataW H := .agg [.lit (.int .u64 1), .lit (.int .u64 10), .lit (.int .u64 100), .lit (.int .u64 1000), .lit (.int .u64 10000), .lit (.int .u64 100000), .lit (.int .u64 1000000), .lit (.int .u64 10000000), .lit (.int .u64 100000000), .lit (.int .u64 1000000000), .lit (.int .u64 10000000000), .lit (.int .u64 100000000000), .lit (.int .u64 1000000000000), .lit (.int .u64 10000000000000), .lit (.int .u64 100000000000000), .lit (.int .u64 1000000000000000), .lit (.int .u64 10000000000000000), .lit (.int .u64 100000000000000000), .lit (.int .u64 1000000000000000000), .lit (.int .u64 10000000000000000000)]
def laid_strconv_ErrRange {H : Type} : DataW H := .iface "*errors.errorString" (.ptr (.agg [.lit (.string [118, 97, 108, 117, 101, 32, 111, 117, 116, 32, 111, 102, 32, 114, 97, 110, 103, 101])]))
def laid_strconv_ErrSyntax {H : Type} : DataW H := .iface "*errors.errorString" (.ptr (.agg [.lit (.string [105, 110, 118, 97, 108, 105, 100, 32, 115, 121, 110, 116, 97, 120])]))
def laid_hearsay_script_rows {H : Type} : DataW H := .iface "func table" (.agg [.agg [.lit (.string [101, 110, 114, 111, 108, 108]), .lit (.int .i64 1), .iface "func" (.lit (.string [104, 101, 97, 114, 115, 97, 121, 47, 115, 99, 114, 105, 112, 116, 46, 114, 111, 119, 115, 36, 49]))], .agg [.lit (.string [97, 115, 115, 101, 114, 116]), .lit (.int .i64 2), .iface "func" (.lit (.string [104, 101, 97, 114, 115, 97, 121, 47, 115, 99, 114, 105, 112, 116, 46, 114, 111, 119, 115, 36, 50]))], .agg [.lit (.string [114, 101, 116, 114, 97, 99, 116]), .lit (.int .i64 3), .iface "func" (.lit (.string [104, 101, 97, 114, 115, 97, 121, 47, 115, 99, 114, 105, 112, 116, 46, 114, 111, 119, 115, 36, 51]))], .agg [.lit (.string [101, 120, 112, 111, 114, 116]), .lit (.int .i64 4), .iface "func" (.lit (.string [104, 101, 97, 114, 115, 97, 121, 47, 115, 99, 114, 105, 112, 116, 46, 114, 111, 119, 115, 36, 52]))], .agg [.lit (.string [105, 109, 112, 111, 114, 116]), .lit (.int .i64 5), .iface "func" (.lit (.string [104, 101, 97, 114, 115, 97, 121, 47, 115, 99, 114, 105, 112, 116, 46, 114, 111, 119, 115, 36, 53]))], .agg [.lit (.string [102, 111, 114, 103, 101, 116]), .lit (.int .i64 6), .iface "func" (.lit (.string [104, 101, 97, 114, 115, 97, 121, 47, 115, 99, 114, 105, 112, 116, 46, 114, 111, 119, 115, 36, 54]))], .agg [.lit (.string [113, 117, 101, 114, 121]), .lit (.int .i64 7), .iface "func" (.lit (.string [104, 101, 97, 114, 115, 97, 121, 47, 115, 99, 114, 105, 112, 116, 46, 114, 111, 119, 115, 36, 55]))], .agg [.lit (.string [97, 115, 107]), .lit (.int .i64 8), .iface "func" (.lit (.string [104, 101, 97, 114, 115, 97, 121, 47, 115, 99, 114, 105, 112, 116, 46, 114, 111, 119, 115, 36, 56]))], .agg [.lit (.string [119, 97, 116, 99, 104]), .lit (.int .i64 9), .iface "func" (.lit (.string [104, 101, 97, 114, 115, 97, 121, 47, 115, 99, 114, 105, 112, 116, 46, 114, 111, 119, 115, 36, 57]))], .agg [.lit (.string [110, 101, 119, 115]), .lit (.int .i64 10), .iface "func" (.lit (.string [104, 101, 97, 114, 115, 97, 121, 47, 115, 99, 114, 105, 112, 116, 46, 114, 111, 119, 115, 36, 49, 48]))], .agg [.lit (.string [119, 104, 121]), .lit (.int .i64 11), .iface "func" (.lit (.string [104, 101, 97, 114, 115, 97, 121, 47, 115, 99, 114, 105, 112, 116, 46, 114, 111, 119, 115, 36, 49, 49]))], .agg [.lit (.string [108, 111, 115, 115]), .lit (.int .i64 12), .iface "func" (.lit (.string [104, 101, 97, 114, 115, 97, 121, 47, 115, 99, 114, 105, 112, 116, 46, 114, 111, 119, 115, 36, 49, 50]))], .agg [.lit (.string [112, 114, 111, 118, 101]), .lit (.int .i64 13), .iface "func" (.lit (.string [104, 101, 97, 114, 115, 97, 121, 47, 115, 99, 114, 105, 112, 116, 46, 114, 111, 119, 115, 36, 49, 51]))], .agg [.lit (.string [115, 104, 111, 119]), .lit (.int .i64 14), .iface "func" (.lit (.string [104, 101, 97, 114, 115, 97, 121, 47, 115, 99, 114, 105, 112, 116, 46, 114, 111, 119, 115, 36, 49, 52]))], .agg [.lit (.string [99, 108, 97, 117, 115, 101, 115]), .lit (.int .i64 15), .iface "func" (.lit (.string [104, 101, 97, 114, 115, 97, 121, 47, 115, 99, 114, 105, 112, 116, 46, 114, 111, 119, 115, 36, 49, 53]))], .agg [.lit (.string [114, 101, 100, 117, 110, 100, 97, 110, 116]), .lit (.int .i64 24), .iface "func" (.lit (.string [104, 101, 97, 114, 115, 97, 121, 47, 115, 99, 114, 105, 112, 116, 46, 114, 111, 119, 115, 36, 49, 54]))], .agg [.lit (.string [100, 114, 111, 112]), .lit (.int .i64 16), .iface "func" (.lit (.string [104, 101, 97, 114, 115, 97, 121, 47, 115, 99, 114, 105, 112, 116, 46, 114, 111, 119, 115, 36, 49, 55]))], .agg [.lit (.string [99, 111, 112, 121]), .lit (.int .i64 17), .iface "func" (.lit (.string [104, 101, 97, 114, 115, 97, 121, 47, 115, 99, 114, 105, 112, 116, 46, 114, 111, 119, 115, 36, 49, 56]))], .agg [.lit (.string [115, 119, 97, 112]), .lit (.int .i64 18), .iface "func" (.lit (.string [104, 101, 97, 114, 115, 97, 121, 47, 115, 99, 114, 105, 112, 116, 46, 114, 111, 119, 115, 36, 49, 57]))], .agg [.lit (.string [102, 108, 105, 112]), .lit (.int .i64 19), .iface "func" (.lit (.string [104, 101, 97, 114, 115, 97, 121, 47, 115, 99, 114, 105, 112, 116, 46, 114, 111, 119, 115, 36, 50, 48]))], .agg [.lit (.string [99, 117, 116]), .lit (.int .i64 20), .iface "func" (.lit (.string [104, 101, 97, 114, 115, 97, 121, 47, 115, 99, 114, 105, 112, 116, 46, 114, 111, 119, 115, 36, 50, 49]))], .agg [.lit (.string [102, 111, 114, 103, 101]), .lit (.int .i64 21), .iface "func" (.lit (.string [104, 101, 97, 114, 115, 97, 121, 47, 115, 99, 114, 105, 112, 116, 46, 114, 111, 119, 115, 36, 50, 50]))], .agg [.lit (.string [119, 97, 105, 116, 105, 110, 103]), .lit (.int .i64 22), .iface "func" (.lit (.string [104, 101, 97, 114, 115, 97, 121, 47, 115, 99, 114, 105, 112, 116, 46, 114, 111, 119, 115, 36, 50, 51]))], .agg [.lit (.string [99, 114, 97, 115, 104]), .lit (.int .i64 23), .iface "func" (.lit (.string [104, 101, 97, 114, 115, 97, 121, 47, 115, 99, 114, 105, 112, 116, 46, 114, 111, 119, 115, 36, 50, 52]))]])
def laid_hearsay_hearsayref04_signs {H : Type} : DataW H := .agg [.lit (.string [58, 45]), .lit (.string [33, 61]), .lit (.string [60, 61]), .lit (.string [40]), .lit (.string [41]), .lit (.string [44]), .lit (.string [59]), .lit (.string [46]), .lit (.string [63]), .lit (.string [61]), .lit (.string [60])]
def laid_hearsay_hearsayref04_kinds {H : Type} : DataW H := .agg [.lit (.int .i64 11), .lit (.int .i64 14), .lit (.int .i64 16), .lit (.int .i64 6), .lit (.int .i64 7), .lit (.int .i64 8), .lit (.int .i64 9), .lit (.int .i64 10), .lit (.int .i64 12), .lit (.int .i64 13), .lit (.int .i64 15)]

/-- 'hearsaylaw25.ScriptPrints': WHATEVER THE INPUT: true; the input reads as it did. -/
def scriptPrintsSpec : ChangeSpec := { name := "scriptPrints", fn := fun _ => fun
  | [d] => { results := [.lit (.bool true)], args := [d] }
  | _ => none }
def scriptPrintsRow : OpenClaim := { program := "ytgeheffhdpeddaadoor", sum := "66bd12700649acfbeb9b795294c0b8eadd7f60ef7b179a562250438f56a934e9", func := "hearsay/hearsaylaw25.ScriptPrints", spec := "scriptPrints", inPlace := ["internal/abi.NoEscape", "internal/bytealg.MakeNoZero", "internal/bytealg.IndexByteString"], unfollowed := true, recurses := true, named := ["hearsay/script.rows", "internal/strconv.uint64pow10", "math/bits.deBruijn32tab", "math/bits.deBruijn64tab", "strconv.ErrSyntax", "strconv.ErrRange"], apart := false, laid := [("math/bits.deBruijn32tab", laid_math_bits_deBruijn32tab), ("math/bits.deBruijn64tab", laid_math_bits_deBruijn64tab), ("internal/strconv.uint64pow10", laid_internal_strconv_uint64pow10), ("strconv.ErrRange", laid_strconv_ErrRange), ("strconv.ErrSyntax", laid_strconv_ErrSyntax), ("hearsay/script.rows", laid_hearsay_script_rows)] }
def ScriptPrintsSaid : Prop := scriptPrintsRow.holds Tryd.pinned (OpenSpec.ofChange scriptPrintsSpec)

/-- ITS FALSE NEIGHBOUR: 'it returns false'. Refute it at one input. -/
def scriptPrintsWrong : ChangeSpec := { name := "scriptPrints", fn := fun _ => fun
  | [d] => { results := [.lit (.bool false)], args := [d] }
  | _ => none }
def ScriptPrintsWrongFalsely : Prop := scriptPrintsRow.holds Tryd.pinned (OpenSpec.ofChange scriptPrintsWrong)

/-- 'hearsaylaw25.ScriptAgain': WHATEVER THE INPUT: true; the input reads as it did. -/
def scriptAgainSpec : ChangeSpec := { name := "scriptAgain", fn := fun _ => fun
  | [d] => { results := [.lit (.bool true)], args := [d] }
  | _ => none }
def scriptAgainRow : OpenClaim := { program := "ytgeheffhdpeddaadoor", sum := "66bd12700649acfbeb9b795294c0b8eadd7f60ef7b179a562250438f56a934e9", func := "hearsay/hearsaylaw25.ScriptAgain", spec := "scriptAgain", inPlace := ["internal/bytealg.IndexByteString", "internal/abi.NoEscape", "internal/bytealg.MakeNoZero"], unfollowed := true, recurses := true, named := ["strconv.ErrSyntax", "strconv.ErrRange", "internal/strconv.uint64pow10", "math/bits.deBruijn32tab", "math/bits.deBruijn64tab", "hearsay/script.rows"], apart := false, laid := [("math/bits.deBruijn32tab", laid_math_bits_deBruijn32tab), ("math/bits.deBruijn64tab", laid_math_bits_deBruijn64tab), ("internal/strconv.uint64pow10", laid_internal_strconv_uint64pow10), ("strconv.ErrRange", laid_strconv_ErrRange), ("strconv.ErrSyntax", laid_strconv_ErrSyntax), ("hearsay/script.rows", laid_hearsay_script_rows)] }
def ScriptAgainSaid : Prop := scriptAgainRow.holds Tryd.pinned (OpenSpec.ofChange scriptAgainSpec)

/-- ITS FALSE NEIGHBOUR: 'it returns false'. Refute it at one input. -/
def scriptAgainWrong : ChangeSpec := { name := "scriptAgain", fn := fun _ => fun
  | [d] => { results := [.lit (.bool false)], args := [d] }
  | _ => none }
def ScriptAgainWrongFalsely : Prop := scriptAgainRow.holds Tryd.pinned (OpenSpec.ofChange scriptAgainWrong)

/-- 'hearsaylaw25.ScriptRefuses': WHATEVER THE INPUT: true; the input reads as it did. -/
def scriptRefusesSpec : ChangeSpec := { name := "scriptRefuses", fn := fun _ => fun
  | [d1, d2] => { results := [.lit (.bool true)], args := [d1, d2] }
  | _ => none }
def scriptRefusesRow : OpenClaim := { program := "ytgeheffhdpeddaadoor", sum := "66bd12700649acfbeb9b795294c0b8eadd7f60ef7b179a562250438f56a934e9", func := "hearsay/hearsaylaw25.ScriptRefuses", spec := "scriptRefuses", inPlace := ["internal/abi.NoEscape", "internal/bytealg.MakeNoZero", "internal/bytealg.IndexByteString"], unfollowed := true, recurses := true, named := ["hearsay/script.rows", "strconv.ErrSyntax", "strconv.ErrRange", "internal/strconv.uint64pow10", "math/bits.deBruijn32tab", "math/bits.deBruijn64tab"], apart := false, laid := [("math/bits.deBruijn32tab", laid_math_bits_deBruijn32tab), ("math/bits.deBruijn64tab", laid_math_bits_deBruijn64tab), ("internal/strconv.uint64pow10", laid_internal_strconv_uint64pow10), ("strconv.ErrRange", laid_strconv_ErrRange), ("strconv.ErrSyntax", laid_strconv_ErrSyntax), ("hearsay/script.rows", laid_hearsay_script_rows)] }
def ScriptRefusesSaid : Prop := scriptRefusesRow.holds Tryd.pinned (OpenSpec.ofChange scriptRefusesSpec)

/-- ITS FALSE NEIGHBOUR: 'it returns false'. Refute it at one input. -/
def scriptRefusesWrong : ChangeSpec := { name := "scriptRefuses", fn := fun _ => fun
  | [d1, d2] => { results := [.lit (.bool false)], args := [d1, d2] }
  | _ => none }
def ScriptRefusesWrongFalsely : Prop := scriptRefusesRow.holds Tryd.pinned (OpenSpec.ofChange scriptRefusesWrong)

/-- 'hearsaylaw25.ScriptLong': WHATEVER THE INPUT: true; the input reads as it did. -/
def scriptLongSpec : ChangeSpec := { name := "scriptLong", fn := fun _ => fun
  | [d1, d2] => { results := [.lit (.bool true)], args := [d1, d2] }
  | _ => none }
def scriptLongRow : OpenClaim := { program := "ytgeheffhdpeddaadoor", sum := "66bd12700649acfbeb9b795294c0b8eadd7f60ef7b179a562250438f56a934e9", func := "hearsay/hearsaylaw25.ScriptLong", spec := "scriptLong", inPlace := ["internal/bytealg.IndexByteString", "internal/abi.NoEscape", "internal/bytealg.MakeNoZero"], unfollowed := true, recurses := true, named := ["strconv.ErrSyntax", "strconv.ErrRange", "internal/strconv.uint64pow10", "math/bits.deBruijn32tab", "math/bits.deBruijn64tab", "hearsay/script.rows"], apart := false, laid := [("math/bits.deBruijn32tab", laid_math_bits_deBruijn32tab), ("math/bits.deBruijn64tab", laid_math_bits_deBruijn64tab), ("internal/strconv.uint64pow10", laid_internal_strconv_uint64pow10), ("strconv.ErrRange", laid_strconv_ErrRange), ("strconv.ErrSyntax", laid_strconv_ErrSyntax), ("hearsay/script.rows", laid_hearsay_script_rows)] }
def ScriptLongSaid : Prop := scriptLongRow.holds Tryd.pinned (OpenSpec.ofChange scriptLongSpec)

/-- ITS FALSE NEIGHBOUR: 'it returns false'. Refute it at one input. -/
def scriptLongWrong : ChangeSpec := { name := "scriptLong", fn := fun _ => fun
  | [d1, d2] => { results := [.lit (.bool false)], args := [d1, d2] }
  | _ => none }
def ScriptLongWrongFalsely : Prop := scriptLongRow.holds Tryd.pinned (OpenSpec.ofChange scriptLongWrong)

/-- 'hearsaylaw25.ScriptReads': WHATEVER THE INPUT: true; the input reads as it did. -/
def scriptReadsSpec : ChangeSpec := { name := "scriptReads", fn := fun _ => fun
  | [d] => { results := [.lit (.bool true)], args := [d] }
  | _ => none }
def scriptReadsRow : OpenClaim := { program := "ytgeheffhdpeddaadoor", sum := "66bd12700649acfbeb9b795294c0b8eadd7f60ef7b179a562250438f56a934e9", func := "hearsay/hearsaylaw25.ScriptReads", spec := "scriptReads", inPlace := ["internal/bytealg.IndexByteString", "internal/abi.NoEscape", "internal/bytealg.MakeNoZero"], unfollowed := true, recurses := true, named := ["strconv.ErrSyntax", "strconv.ErrRange", "internal/strconv.uint64pow10", "math/bits.deBruijn32tab", "math/bits.deBruijn64tab", "hearsay/script.rows", "hearsay/hearsayref04.signs", "hearsay/hearsayref04.kinds"], apart := false, laid := [("hearsay/hearsayref04.signs", laid_hearsay_hearsayref04_signs), ("hearsay/hearsayref04.kinds", laid_hearsay_hearsayref04_kinds), ("math/bits.deBruijn32tab", laid_math_bits_deBruijn32tab), ("math/bits.deBruijn64tab", laid_math_bits_deBruijn64tab), ("internal/strconv.uint64pow10", laid_internal_strconv_uint64pow10), ("strconv.ErrRange", laid_strconv_ErrRange), ("strconv.ErrSyntax", laid_strconv_ErrSyntax), ("hearsay/script.rows", laid_hearsay_script_rows)] }
def ScriptReadsSaid : Prop := scriptReadsRow.holds Tryd.pinned (OpenSpec.ofChange scriptReadsSpec)

/-- ITS FALSE NEIGHBOUR: 'it returns false'. Refute it at one input. -/
def scriptReadsWrong : ChangeSpec := { name := "scriptReads", fn := fun _ => fun
  | [d] => { results := [.lit (.bool false)], args := [d] }
  | _ => none }
def ScriptReadsWrongFalsely : Prop := scriptReadsRow.holds Tryd.pinned (OpenSpec.ofChange scriptReadsWrong)

/-- 'hearsaylaw25.ScriptBack': WHATEVER THE INPUT: true; the input reads as it did. -/
def scriptBackSpec : ChangeSpec := { name := "scriptBack", fn := fun _ => fun
  | [d1, d2] => { results := [.lit (.bool true)], args := [d1, d2] }
  | _ => none }
def scriptBackRow : OpenClaim := { program := "ytgeheffhdpeddaadoor", sum := "66bd12700649acfbeb9b795294c0b8eadd7f60ef7b179a562250438f56a934e9", func := "hearsay/hearsaylaw25.ScriptBack", spec := "scriptBack", inPlace := ["internal/abi.NoEscape", "internal/bytealg.MakeNoZero", "internal/bytealg.IndexByteString"], unfollowed := true, recurses := true, named := ["hearsay/script.rows", "strconv.ErrSyntax", "strconv.ErrRange", "internal/strconv.uint64pow10", "math/bits.deBruijn32tab", "math/bits.deBruijn64tab"], apart := false, laid := [("math/bits.deBruijn32tab", laid_math_bits_deBruijn32tab), ("math/bits.deBruijn64tab", laid_math_bits_deBruijn64tab), ("internal/strconv.uint64pow10", laid_internal_strconv_uint64pow10), ("strconv.ErrRange", laid_strconv_ErrRange), ("strconv.ErrSyntax", laid_strconv_ErrSyntax), ("hearsay/script.rows", laid_hearsay_script_rows)] }
def ScriptBackSaid : Prop := scriptBackRow.holds Tryd.pinned (OpenSpec.ofChange scriptBackSpec)

/-- ITS FALSE NEIGHBOUR: 'it returns false'. Refute it at one input. -/
def scriptBackWrong : ChangeSpec := { name := "scriptBack", fn := fun _ => fun
  | [d1, d2] => { results := [.lit (.bool false)], args := [d1, d2] }
  | _ => none }
def ScriptBackWrongFalsely : Prop := scriptBackRow.holds Tryd.pinned (OpenSpec.ofChange scriptBackWrong)

/-- 'hearsaylaw25.ScriptCuts': WHATEVER THE INPUT: true; the input reads as it did. -/
def scriptCutsSpec : ChangeSpec := { name := "scriptCuts", fn := fun _ => fun
  | [d] => { results := [.lit (.bool true)], args := [d] }
  | _ => none }
def scriptCutsRow : OpenClaim := { program := "ytgeheffhdpeddaadoor", sum := "66bd12700649acfbeb9b795294c0b8eadd7f60ef7b179a562250438f56a934e9", func := "hearsay/hearsaylaw25.ScriptCuts", spec := "scriptCuts", inPlace := ["internal/bytealg.IndexByteString", "internal/abi.NoEscape", "internal/bytealg.MakeNoZero"], unfollowed := true, recurses := true, named := ["strconv.ErrSyntax", "strconv.ErrRange", "internal/strconv.uint64pow10", "math/bits.deBruijn32tab", "math/bits.deBruijn64tab", "hearsay/script.rows"], apart := false, laid := [("math/bits.deBruijn32tab", laid_math_bits_deBruijn32tab), ("math/bits.deBruijn64tab", laid_math_bits_deBruijn64tab), ("internal/strconv.uint64pow10", laid_internal_strconv_uint64pow10), ("strconv.ErrRange", laid_strconv_ErrRange), ("strconv.ErrSyntax", laid_strconv_ErrSyntax), ("hearsay/script.rows", laid_hearsay_script_rows)] }
def ScriptCutsSaid : Prop := scriptCutsRow.holds Tryd.pinned (OpenSpec.ofChange scriptCutsSpec)

/-- ITS FALSE NEIGHBOUR: 'it returns false'. Refute it at one input. -/
def scriptCutsWrong : ChangeSpec := { name := "scriptCuts", fn := fun _ => fun
  | [d] => { results := [.lit (.bool false)], args := [d] }
  | _ => none }
def ScriptCutsWrongFalsely : Prop := scriptCutsRow.holds Tryd.pinned (OpenSpec.ofChange scriptCutsWrong)

/-- 'hearsaylaw25.ScriptJoins': WHATEVER THE INPUT: true; the input reads as it did. -/
def scriptJoinsSpec : ChangeSpec := { name := "scriptJoins", fn := fun _ => fun
  | [d] => { results := [.lit (.bool true)], args := [d] }
  | _ => none }
def scriptJoinsRow : OpenClaim := { program := "ytgeheffhdpeddaadoor", sum := "66bd12700649acfbeb9b795294c0b8eadd7f60ef7b179a562250438f56a934e9", func := "hearsay/hearsaylaw25.ScriptJoins", spec := "scriptJoins", inPlace := ["internal/bytealg.IndexByteString", "internal/abi.NoEscape", "internal/bytealg.MakeNoZero"], unfollowed := true, recurses := true, named := ["strconv.ErrSyntax", "strconv.ErrRange", "internal/strconv.uint64pow10", "math/bits.deBruijn32tab", "math/bits.deBruijn64tab", "hearsay/script.rows"], apart := false, laid := [("math/bits.deBruijn32tab", laid_math_bits_deBruijn32tab), ("math/bits.deBruijn64tab", laid_math_bits_deBruijn64tab), ("internal/strconv.uint64pow10", laid_internal_strconv_uint64pow10), ("strconv.ErrRange", laid_strconv_ErrRange), ("strconv.ErrSyntax", laid_strconv_ErrSyntax), ("hearsay/script.rows", laid_hearsay_script_rows)] }
def ScriptJoinsSaid : Prop := scriptJoinsRow.holds Tryd.pinned (OpenSpec.ofChange scriptJoinsSpec)

/-- ITS FALSE NEIGHBOUR: 'it returns false'. Refute it at one input. -/
def scriptJoinsWrong : ChangeSpec := { name := "scriptJoins", fn := fun _ => fun
  | [d] => { results := [.lit (.bool false)], args := [d] }
  | _ => none }
def ScriptJoinsWrongFalsely : Prop := scriptJoinsRow.holds Tryd.pinned (OpenSpec.ofChange scriptJoinsWrong)

/- THE SECOND FORM. 'bulk': how many values and letters a reading holds, each counted each time it is reached (what is shared counts as often as it is met; a slice's spare places count too). A statement '..UptoSaid' is the law's where the arguments, and the package variables that the reading takes, are together of bulk at most 1048576: NARROWER than '..Said'. Prove '..Said' where nothing that the law and all that it calls make is longer than what came in: it says more and counts as full. Else prove '..UptoSaid'. A law counts once. -/
mutual
def uptoBulk {H : Type} : DataW H → Nat
  | .lit (.string bytes) => bytes.length + 1
  | .lit _ => 1
  | .nil => 1
  | .ptr d => uptoBulk d + 1
  | .slice elems spare => uptoBulkAll elems + uptoBulkAll spare + 1
  | .agg parts => uptoBulkAll parts + 1
  | .iface _ d => uptoBulk d + 1
  | .map entries => uptoBulkEntries entries + 1
  | .held _ => 1
def uptoBulkAll {H : Type} : List (DataW H) → Nat
  | [] => 0
  | d :: r => uptoBulk d + uptoBulkAll r
def uptoBulkEntries {H : Type} : List (Lit × DataW H) → Nat
  | [] => 0
  | x :: r => uptoBulkEntry x + uptoBulkEntries r
def uptoBulkEntry {H : Type} : Lit × DataW H → Nat
  | (.string bytes, d) => bytes.length + uptoBulk d + 1
  | (_, d) => uptoBulk d + 1
 end
def uptoSmall : (H : Type) → List (DataW H) → Bool := fun _ ds => decide (uptoBulkAll ds ≤ 1048576)
def OpenSpec.upto (s : _root_.Go.ChangeSpec) : _root_.Go.OpenSpec := { _root_.Go.OpenSpec.ofChange s with cond := some uptoSmall }

/-- 'hearsaylaw25.ScriptPrints', WHERE WHAT IT READS IS OF BULK AT MOST 1048576: true; the input reads as it did. -/
def scriptPrintsUptoRow : OpenClaim := { program := "ytgeheffhdpeddaadoor", sum := "66bd12700649acfbeb9b795294c0b8eadd7f60ef7b179a562250438f56a934e9", func := "hearsay/hearsaylaw25.ScriptPrints", spec := "scriptPrints", inPlace := ["internal/abi.NoEscape", "internal/bytealg.MakeNoZero", "internal/bytealg.IndexByteString"], unfollowed := true, recurses := true, named := ["hearsay/script.rows", "internal/strconv.uint64pow10", "math/bits.deBruijn32tab", "math/bits.deBruijn64tab", "strconv.ErrSyntax", "strconv.ErrRange"], apart := false, laid := [("math/bits.deBruijn32tab", laid_math_bits_deBruijn32tab), ("math/bits.deBruijn64tab", laid_math_bits_deBruijn64tab), ("internal/strconv.uint64pow10", laid_internal_strconv_uint64pow10), ("strconv.ErrRange", laid_strconv_ErrRange), ("strconv.ErrSyntax", laid_strconv_ErrSyntax), ("hearsay/script.rows", laid_hearsay_script_rows)], narrowed := true }
def ScriptPrintsUptoSaid : Prop := scriptPrintsUptoRow.holds Tryd.pinned (OpenSpec.upto scriptPrintsSpec)

/-- 'hearsaylaw25.ScriptAgain', WHERE WHAT IT READS IS OF BULK AT MOST 1048576: true; the input reads as it did. -/
def scriptAgainUptoRow : OpenClaim := { program := "ytgeheffhdpeddaadoor", sum := "66bd12700649acfbeb9b795294c0b8eadd7f60ef7b179a562250438f56a934e9", func := "hearsay/hearsaylaw25.ScriptAgain", spec := "scriptAgain", inPlace := ["internal/bytealg.IndexByteString", "internal/abi.NoEscape", "internal/bytealg.MakeNoZero"], unfollowed := true, recurses := true, named := ["strconv.ErrSyntax", "strconv.ErrRange", "internal/strconv.uint64pow10", "math/bits.deBruijn32tab", "math/bits.deBruijn64tab", "hearsay/script.rows"], apart := false, laid := [("math/bits.deBruijn32tab", laid_math_bits_deBruijn32tab), ("math/bits.deBruijn64tab", laid_math_bits_deBruijn64tab), ("internal/strconv.uint64pow10", laid_internal_strconv_uint64pow10), ("strconv.ErrRange", laid_strconv_ErrRange), ("strconv.ErrSyntax", laid_strconv_ErrSyntax), ("hearsay/script.rows", laid_hearsay_script_rows)], narrowed := true }
def ScriptAgainUptoSaid : Prop := scriptAgainUptoRow.holds Tryd.pinned (OpenSpec.upto scriptAgainSpec)

/-- 'hearsaylaw25.ScriptRefuses', WHERE WHAT IT READS IS OF BULK AT MOST 1048576: true; the input reads as it did. -/
def scriptRefusesUptoRow : OpenClaim := { program := "ytgeheffhdpeddaadoor", sum := "66bd12700649acfbeb9b795294c0b8eadd7f60ef7b179a562250438f56a934e9", func := "hearsay/hearsaylaw25.ScriptRefuses", spec := "scriptRefuses", inPlace := ["internal/abi.NoEscape", "internal/bytealg.MakeNoZero", "internal/bytealg.IndexByteString"], unfollowed := true, recurses := true, named := ["hearsay/script.rows", "strconv.ErrSyntax", "strconv.ErrRange", "internal/strconv.uint64pow10", "math/bits.deBruijn32tab", "math/bits.deBruijn64tab"], apart := false, laid := [("math/bits.deBruijn32tab", laid_math_bits_deBruijn32tab), ("math/bits.deBruijn64tab", laid_math_bits_deBruijn64tab), ("internal/strconv.uint64pow10", laid_internal_strconv_uint64pow10), ("strconv.ErrRange", laid_strconv_ErrRange), ("strconv.ErrSyntax", laid_strconv_ErrSyntax), ("hearsay/script.rows", laid_hearsay_script_rows)], narrowed := true }
def ScriptRefusesUptoSaid : Prop := scriptRefusesUptoRow.holds Tryd.pinned (OpenSpec.upto scriptRefusesSpec)

/-- 'hearsaylaw25.ScriptLong', WHERE WHAT IT READS IS OF BULK AT MOST 1048576: true; the input reads as it did. -/
def scriptLongUptoRow : OpenClaim := { program := "ytgeheffhdpeddaadoor", sum := "66bd12700649acfbeb9b795294c0b8eadd7f60ef7b179a562250438f56a934e9", func := "hearsay/hearsaylaw25.ScriptLong", spec := "scriptLong", inPlace := ["internal/bytealg.IndexByteString", "internal/abi.NoEscape", "internal/bytealg.MakeNoZero"], unfollowed := true, recurses := true, named := ["strconv.ErrSyntax", "strconv.ErrRange", "internal/strconv.uint64pow10", "math/bits.deBruijn32tab", "math/bits.deBruijn64tab", "hearsay/script.rows"], apart := false, laid := [("math/bits.deBruijn32tab", laid_math_bits_deBruijn32tab), ("math/bits.deBruijn64tab", laid_math_bits_deBruijn64tab), ("internal/strconv.uint64pow10", laid_internal_strconv_uint64pow10), ("strconv.ErrRange", laid_strconv_ErrRange), ("strconv.ErrSyntax", laid_strconv_ErrSyntax), ("hearsay/script.rows", laid_hearsay_script_rows)], narrowed := true }
def ScriptLongUptoSaid : Prop := scriptLongUptoRow.holds Tryd.pinned (OpenSpec.upto scriptLongSpec)

/-- 'hearsaylaw25.ScriptReads', WHERE WHAT IT READS IS OF BULK AT MOST 1048576: true; the input reads as it did. -/
def scriptReadsUptoRow : OpenClaim := { program := "ytgeheffhdpeddaadoor", sum := "66bd12700649acfbeb9b795294c0b8eadd7f60ef7b179a562250438f56a934e9", func := "hearsay/hearsaylaw25.ScriptReads", spec := "scriptReads", inPlace := ["internal/bytealg.IndexByteString", "internal/abi.NoEscape", "internal/bytealg.MakeNoZero"], unfollowed := true, recurses := true, named := ["strconv.ErrSyntax", "strconv.ErrRange", "internal/strconv.uint64pow10", "math/bits.deBruijn32tab", "math/bits.deBruijn64tab", "hearsay/script.rows", "hearsay/hearsayref04.signs", "hearsay/hearsayref04.kinds"], apart := false, laid := [("hearsay/hearsayref04.signs", laid_hearsay_hearsayref04_signs), ("hearsay/hearsayref04.kinds", laid_hearsay_hearsayref04_kinds), ("math/bits.deBruijn32tab", laid_math_bits_deBruijn32tab), ("math/bits.deBruijn64tab", laid_math_bits_deBruijn64tab), ("internal/strconv.uint64pow10", laid_internal_strconv_uint64pow10), ("strconv.ErrRange", laid_strconv_ErrRange), ("strconv.ErrSyntax", laid_strconv_ErrSyntax), ("hearsay/script.rows", laid_hearsay_script_rows)], narrowed := true }
def ScriptReadsUptoSaid : Prop := scriptReadsUptoRow.holds Tryd.pinned (OpenSpec.upto scriptReadsSpec)

/-- 'hearsaylaw25.ScriptBack', WHERE WHAT IT READS IS OF BULK AT MOST 1048576: true; the input reads as it did. -/
def scriptBackUptoRow : OpenClaim := { program := "ytgeheffhdpeddaadoor", sum := "66bd12700649acfbeb9b795294c0b8eadd7f60ef7b179a562250438f56a934e9", func := "hearsay/hearsaylaw25.ScriptBack", spec := "scriptBack", inPlace := ["internal/abi.NoEscape", "internal/bytealg.MakeNoZero", "internal/bytealg.IndexByteString"], unfollowed := true, recurses := true, named := ["hearsay/script.rows", "strconv.ErrSyntax", "strconv.ErrRange", "internal/strconv.uint64pow10", "math/bits.deBruijn32tab", "math/bits.deBruijn64tab"], apart := false, laid := [("math/bits.deBruijn32tab", laid_math_bits_deBruijn32tab), ("math/bits.deBruijn64tab", laid_math_bits_deBruijn64tab), ("internal/strconv.uint64pow10", laid_internal_strconv_uint64pow10), ("strconv.ErrRange", laid_strconv_ErrRange), ("strconv.ErrSyntax", laid_strconv_ErrSyntax), ("hearsay/script.rows", laid_hearsay_script_rows)], narrowed := true }
def ScriptBackUptoSaid : Prop := scriptBackUptoRow.holds Tryd.pinned (OpenSpec.upto scriptBackSpec)

/-- 'hearsaylaw25.ScriptCuts', WHERE WHAT IT READS IS OF BULK AT MOST 1048576: true; the input reads as it did. -/
def scriptCutsUptoRow : OpenClaim := { program := "ytgeheffhdpeddaadoor", sum := "66bd12700649acfbeb9b795294c0b8eadd7f60ef7b179a562250438f56a934e9", func := "hearsay/hearsaylaw25.ScriptCuts", spec := "scriptCuts", inPlace := ["internal/bytealg.IndexByteString", "internal/abi.NoEscape", "internal/bytealg.MakeNoZero"], unfollowed := true, recurses := true, named := ["strconv.ErrSyntax", "strconv.ErrRange", "internal/strconv.uint64pow10", "math/bits.deBruijn32tab", "math/bits.deBruijn64tab", "hearsay/script.rows"], apart := false, laid := [("math/bits.deBruijn32tab", laid_math_bits_deBruijn32tab), ("math/bits.deBruijn64tab", laid_math_bits_deBruijn64tab), ("internal/strconv.uint64pow10", laid_internal_strconv_uint64pow10), ("strconv.ErrRange", laid_strconv_ErrRange), ("strconv.ErrSyntax", laid_strconv_ErrSyntax), ("hearsay/script.rows", laid_hearsay_script_rows)], narrowed := true }
def ScriptCutsUptoSaid : Prop := scriptCutsUptoRow.holds Tryd.pinned (OpenSpec.upto scriptCutsSpec)

/-- 'hearsaylaw25.ScriptJoins', WHERE WHAT IT READS IS OF BULK AT MOST 1048576: true; the input reads as it did. -/
def scriptJoinsUptoRow : OpenClaim := { program := "ytgeheffhdpeddaadoor", sum := "66bd12700649acfbeb9b795294c0b8eadd7f60ef7b179a562250438f56a934e9", func := "hearsay/hearsaylaw25.ScriptJoins", spec := "scriptJoins", inPlace := ["internal/bytealg.IndexByteString", "internal/abi.NoEscape", "internal/bytealg.MakeNoZero"], unfollowed := true, recurses := true, named := ["strconv.ErrSyntax", "strconv.ErrRange", "internal/strconv.uint64pow10", "math/bits.deBruijn32tab", "math/bits.deBruijn64tab", "hearsay/script.rows"], apart := false, laid := [("math/bits.deBruijn32tab", laid_math_bits_deBruijn32tab), ("math/bits.deBruijn64tab", laid_math_bits_deBruijn64tab), ("internal/strconv.uint64pow10", laid_internal_strconv_uint64pow10), ("strconv.ErrRange", laid_strconv_ErrRange), ("strconv.ErrSyntax", laid_strconv_ErrSyntax), ("hearsay/script.rows", laid_hearsay_script_rows)], narrowed := true }
def ScriptJoinsUptoSaid : Prop := scriptJoinsUptoRow.holds Tryd.pinned (OpenSpec.upto scriptJoinsSpec)

end Rows
end Go.Proofs.YtgeheffhdpeddaaDoor
