/-
  NARROWER THAN 'FOR EVERY INPUT', by the rows' own cells (each row's printed sentence says how): UnifyBinds: loops, laid · UnifyParses: laid · UnifyBoth: loops, laid · UnifyAgain: loops, laid · UnifyTexts: loops, laid · UnifyApplies: loops, laid · UnifyMost: loops, laid · UnifyInstances: loops, laid · UnifyGeneral: loops, laid · UnifyForms: loops, laid · UnifyNew: loops, laid.
  DERIVED. THE GIVEN ROWS OF THIS SEAT. 11 by the template 'for every input the law returns true; each argument reads behind the call as it read before'; 0 by the template 'total and deterministic' (their statements: YtplnfepdikbpfaaGreatDoorTotals.lean).
  GIVEN WITH THE SEED: the statements are not yours to turn. If you find one false, say at which input.
  Laid BY PROGRAM, IN A SANDBOX (cutbox-rows.mjs): the forced cells as the released guide's own fill.sh prints them over the translation ec0bc8283f5ef9a2… (all of the seat's roots in one cut). By AI agents, Wed Nov 11 2026. No macro, syntax, notation, axiom, sorry.
-/
import Derived.Test.YtplnfepdikbpfaaGreatDoorChecked
import GoSem.Claim
import GoSem.ClaimJoined
import GoSem.ClaimMapViews
import Derived.JoinedTies
import Derived.KernelRfl
namespace Go.Proofs.YtplnfepdikbpfaaGreatDoor
/- THE CELL 'sum', in the pinned program and in every row, IS THE sha256 OF THE DUMP (.gsa) THAT YtplnfepdikbpfaaGreatDoorProg.lean LOADS. Nothing in Lean hashes anything: it is a label: what it is worth is what the hold of that sum in a sandbox is worth. -/
noncomputable def Tryz.pinned : Pinned := { name := "ytplnfepdikbpfaagreatdoor", sum := "ec0bc8283f5ef9a2e478d2d296cfc45a73d860878f0416cca8fe5c73543aac2f", checked := Tryz.checked }
namespace Rows
def none {H : Type} : Left H := { results := [], args := [] }

/- WHAT THE LISTED PACKAGE-LEVEL VARIABLES READ AS WHEN THE CALL BEGINS. Each datum BY PROGRAM (the guide's laid-datum.mjs) off the statement by which the dump's own 'gosem.cut.vars' lays the variable. In a bare row this is a premise. The card (YtplnfepdikbpfaaGreatDoorCards.lean) ties it to the program's text. -/
def laid_math_bits_deBruijn32tab {H : Type} : DataW H := .agg [.lit (.int .u8 0), .lit (.int .u8 1), .lit (.int .u8 28), .lit (.int .u8 2), .lit (.int .u8 29), .lit (.int .u8 14), .lit (.int .u8 24), .lit (.int .u8 3), .lit (.int .u8 30), .lit (.int .u8 22), .lit (.int .u8 20), .lit (.int .u8 15), .lit (.int .u8 25), .lit (.int .u8 17), .lit (.int .u8 4), .lit (.int .u8 8), .lit (.int .u8 31), .lit (.int .u8 27), .lit (.int .u8 13), .lit (.int .u8 23), .lit (.int .u8 21), .lit (.int .u8 19), .lit (.int .u8 16), .lit (.int .u8 7), .lit (.int .u8 26), .lit (.int .u8 12), .lit (.int .u8 18), .lit (.int .u8 6), .lit (.int .u8 11), .lit (.int .u8 5), .lit (.int .u8 10), .lit (.int .u8 9)]
def laid_math_bits_deBruijn64tab {H : Type} : DataW H := .agg [.lit (.int .u8 0), .lit (.int .u8 1), .lit (.int .u8 56), .lit (.int .u8 2), .lit (.int .u8 57), .lit (.int .u8 49), .lit (.int .u8 28), .lit (.int .u8 3), .lit (.int .u8 61), .lit (.int .u8 58), .lit (.int .u8 42), .lit (.int .u8 50), .lit (.int .u8 38), .lit (.int .u8 29), .lit (.int .u8 17), .lit (.int .u8 4), .lit (.int .u8 62), .lit (.int .u8 47), .lit (.int .u8 59), .lit (.int .u8 36), .lit (.int .u8 45), .lit (.int .u8 43), .lit (.int .u8 51), .lit (.int .u8 22), .lit (.int .u8 53), .lit (.int .u8 39), .lit (.int .u8 33), .lit (.int .u8 30), .lit (.int .u8 24), .lit (.int .u8 18), .lit (.int .u8 12), .lit (.int .u8 5), .lit (.int .u8 63), .lit (.int .u8 55), .lit (.int .u8 48), .lit (.int .u8 27), .lit (.int .u8 60), .lit (.int .u8 41), .lit (.int .u8 37), .lit (.int .u8 16), .lit (.int .u8 46), .lit (.int .u8 35), .lit (.int .u8 44), .lit (.int .u8 21), .lit (.int .u8 52), .lit (.int .u8 32), .lit (.int .u8 23), .lit (.int .u8 11), .lit (.int .u8 54), .lit (.int .u8 26), .lit (.int .u8 40), .lit (.int .u8 15), .lit (.int .u8 34), .lit (.int .u8 20), .lit (.int .u8 31), .lit (.int .u8 10), .lit (.int .u8 25), .lit (.int .u8 14), .lit (.int .u8 19), .lit (.int .u8 9), .lit (.int .u8 13), .lit (.int .u8 8), .lit (.int .u8 7), .lit (.int .u8 6)]
def laid_internal_strconv_uint64pow10 {H : Type} : DataW H := .agg [.lit (.int .u64 1), .lit (.int .u64 10), .lit (.int .u64 100), .lit (.int .u64 1000), .lit (.int .u64 10000), .lit (.int .u64 100000), .lit (.int .u64 1000000), .lit (.int .u64 10000000), .lit (.int .u64 100000000), .lit (.int .u64 1000000000), .lit (.int .u64 10000000000), .lit (.int .u64 100000000000), .lit (.int .u64 1000000000000), .lit (.int .u64 10000000000000), .lit (.int .u64 100000000000000), .lit (.int .u64 1000000000000000), .lit (.int .u64 10000000000000000), .lit (.int .u64 100000000000000000), .lit (.int .u64 1000000000000000000), .lit (.int .u64 10000000000000000000)]
def laid_strconv_ErrRange {H : Type} : DataW H := .iface "*errors.errorString" (.ptr (.agg [.lit (.string [118, 97, 108, 117, 101, 32, 111, 117, 116, 32, 111, 102, 32, 114, 97, 110, 103, 101])]))
def laid_strconv_ErrSyntax {H : Type} : DataW H := .iface "*errors.errorString" (.ptr (.agg [.lit (.string [105, 110, 118, 97, 108, 105, 100, 32, 115, 121, 110, 116, 97, 120])]))

/-- 'marginalialaw14.UnifyBinds': WHATEVER THE INPUT: true; the input reads as it did. -/
def unifyBindsSpec : ChangeSpec := { name := "unifyBinds", fn := fun _ => fun
  | [d1, d2, d3] => { results := [.lit (.bool true)], args := [d1, d2, d3] }
  | _ => none }
def unifyBindsRow : OpenClaim := { program := "ytplnfepdikbpfaagreatdoor", sum := "ec0bc8283f5ef9a2e478d2d296cfc45a73d860878f0416cca8fe5c73543aac2f", func := "marginalia/marginalialaw14.UnifyBinds", spec := "unifyBinds", inPlace := ["internal/abi.NoEscape", "internal/bytealg.IndexByteString"], unfollowed := true, recurses := true, named := ["internal/strconv.uint64pow10", "math/bits.deBruijn32tab", "math/bits.deBruijn64tab", "strconv.ErrSyntax", "strconv.ErrRange"], loops := true, apart := false, laid := [("math/bits.deBruijn32tab", laid_math_bits_deBruijn32tab), ("math/bits.deBruijn64tab", laid_math_bits_deBruijn64tab), ("internal/strconv.uint64pow10", laid_internal_strconv_uint64pow10), ("strconv.ErrRange", laid_strconv_ErrRange), ("strconv.ErrSyntax", laid_strconv_ErrSyntax)] }
def UnifyBindsSaid : Prop := unifyBindsRow.holds Tryz.pinned (OpenSpec.ofChange unifyBindsSpec)

/-- ITS FALSE NEIGHBOUR: 'it returns false'. Refute it at one input. -/
def unifyBindsWrong : ChangeSpec := { name := "unifyBinds", fn := fun _ => fun
  | [d1, d2, d3] => { results := [.lit (.bool false)], args := [d1, d2, d3] }
  | _ => none }
def UnifyBindsWrongFalsely : Prop := unifyBindsRow.holds Tryz.pinned (OpenSpec.ofChange unifyBindsWrong)

/-- 'marginalialaw14.UnifyParses': WHATEVER THE INPUT: true; the input reads as it did. -/
def unifyParsesSpec : ChangeSpec := { name := "unifyParses", fn := fun _ => fun
  | [d] => { results := [.lit (.bool true)], args := [d] }
  | _ => none }
def unifyParsesRow : OpenClaim := { program := "ytplnfepdikbpfaagreatdoor", sum := "ec0bc8283f5ef9a2e478d2d296cfc45a73d860878f0416cca8fe5c73543aac2f", func := "marginalia/marginalialaw14.UnifyParses", spec := "unifyParses", inPlace := ["internal/abi.NoEscape", "internal/bytealg.IndexByteString"], unfollowed := true, recurses := true, named := ["strconv.ErrSyntax", "strconv.ErrRange", "internal/strconv.uint64pow10", "math/bits.deBruijn32tab", "math/bits.deBruijn64tab"], apart := false, laid := [("math/bits.deBruijn32tab", laid_math_bits_deBruijn32tab), ("math/bits.deBruijn64tab", laid_math_bits_deBruijn64tab), ("internal/strconv.uint64pow10", laid_internal_strconv_uint64pow10), ("strconv.ErrRange", laid_strconv_ErrRange), ("strconv.ErrSyntax", laid_strconv_ErrSyntax)] }
def UnifyParsesSaid : Prop := unifyParsesRow.holds Tryz.pinned (OpenSpec.ofChange unifyParsesSpec)

/-- ITS FALSE NEIGHBOUR: 'it returns false'. Refute it at one input. -/
def unifyParsesWrong : ChangeSpec := { name := "unifyParses", fn := fun _ => fun
  | [d] => { results := [.lit (.bool false)], args := [d] }
  | _ => none }
def UnifyParsesWrongFalsely : Prop := unifyParsesRow.holds Tryz.pinned (OpenSpec.ofChange unifyParsesWrong)

/-- 'marginalialaw14.UnifyBoth': WHATEVER THE INPUT: true; the input reads as it did. -/
def unifyBothSpec : ChangeSpec := { name := "unifyBoth", fn := fun _ => fun
  | [d1, d2, d3] => { results := [.lit (.bool true)], args := [d1, d2, d3] }
  | _ => none }
def unifyBothRow : OpenClaim := { program := "ytplnfepdikbpfaagreatdoor", sum := "ec0bc8283f5ef9a2e478d2d296cfc45a73d860878f0416cca8fe5c73543aac2f", func := "marginalia/marginalialaw14.UnifyBoth", spec := "unifyBoth", inPlace := ["internal/abi.NoEscape", "internal/bytealg.IndexByteString"], unfollowed := true, recurses := true, named := ["internal/strconv.uint64pow10", "math/bits.deBruijn32tab", "math/bits.deBruijn64tab", "strconv.ErrSyntax", "strconv.ErrRange"], loops := true, apart := false, laid := [("math/bits.deBruijn32tab", laid_math_bits_deBruijn32tab), ("math/bits.deBruijn64tab", laid_math_bits_deBruijn64tab), ("internal/strconv.uint64pow10", laid_internal_strconv_uint64pow10), ("strconv.ErrRange", laid_strconv_ErrRange), ("strconv.ErrSyntax", laid_strconv_ErrSyntax)] }
def UnifyBothSaid : Prop := unifyBothRow.holds Tryz.pinned (OpenSpec.ofChange unifyBothSpec)

/-- ITS FALSE NEIGHBOUR: 'it returns false'. Refute it at one input. -/
def unifyBothWrong : ChangeSpec := { name := "unifyBoth", fn := fun _ => fun
  | [d1, d2, d3] => { results := [.lit (.bool false)], args := [d1, d2, d3] }
  | _ => none }
def UnifyBothWrongFalsely : Prop := unifyBothRow.holds Tryz.pinned (OpenSpec.ofChange unifyBothWrong)

/-- 'marginalialaw14.UnifyAgain': WHATEVER THE INPUT: true; the input reads as it did. -/
def unifyAgainSpec : ChangeSpec := { name := "unifyAgain", fn := fun _ => fun
  | [d1, d2, d3] => { results := [.lit (.bool true)], args := [d1, d2, d3] }
  | _ => none }
def unifyAgainRow : OpenClaim := { program := "ytplnfepdikbpfaagreatdoor", sum := "ec0bc8283f5ef9a2e478d2d296cfc45a73d860878f0416cca8fe5c73543aac2f", func := "marginalia/marginalialaw14.UnifyAgain", spec := "unifyAgain", inPlace := ["internal/abi.NoEscape", "internal/bytealg.IndexByteString"], unfollowed := true, recurses := true, named := ["internal/strconv.uint64pow10", "math/bits.deBruijn32tab", "math/bits.deBruijn64tab", "strconv.ErrSyntax", "strconv.ErrRange"], loops := true, apart := false, laid := [("math/bits.deBruijn32tab", laid_math_bits_deBruijn32tab), ("math/bits.deBruijn64tab", laid_math_bits_deBruijn64tab), ("internal/strconv.uint64pow10", laid_internal_strconv_uint64pow10), ("strconv.ErrRange", laid_strconv_ErrRange), ("strconv.ErrSyntax", laid_strconv_ErrSyntax)] }
def UnifyAgainSaid : Prop := unifyAgainRow.holds Tryz.pinned (OpenSpec.ofChange unifyAgainSpec)

/-- ITS FALSE NEIGHBOUR: 'it returns false'. Refute it at one input. -/
def unifyAgainWrong : ChangeSpec := { name := "unifyAgain", fn := fun _ => fun
  | [d1, d2, d3] => { results := [.lit (.bool false)], args := [d1, d2, d3] }
  | _ => none }
def UnifyAgainWrongFalsely : Prop := unifyAgainRow.holds Tryz.pinned (OpenSpec.ofChange unifyAgainWrong)

/-- 'marginalialaw14.UnifyTexts': WHATEVER THE INPUT: true; the input reads as it did. -/
def unifyTextsSpec : ChangeSpec := { name := "unifyTexts", fn := fun _ => fun
  | [d1, d2] => { results := [.lit (.bool true)], args := [d1, d2] }
  | _ => none }
def unifyTextsRow : OpenClaim := { program := "ytplnfepdikbpfaagreatdoor", sum := "ec0bc8283f5ef9a2e478d2d296cfc45a73d860878f0416cca8fe5c73543aac2f", func := "marginalia/marginalialaw14.UnifyTexts", spec := "unifyTexts", inPlace := ["internal/abi.NoEscape", "internal/bytealg.IndexByteString"], unfollowed := true, recurses := true, named := ["internal/strconv.uint64pow10", "math/bits.deBruijn32tab", "math/bits.deBruijn64tab", "strconv.ErrSyntax", "strconv.ErrRange"], loops := true, apart := false, laid := [("math/bits.deBruijn32tab", laid_math_bits_deBruijn32tab), ("math/bits.deBruijn64tab", laid_math_bits_deBruijn64tab), ("internal/strconv.uint64pow10", laid_internal_strconv_uint64pow10), ("strconv.ErrRange", laid_strconv_ErrRange), ("strconv.ErrSyntax", laid_strconv_ErrSyntax)] }
def UnifyTextsSaid : Prop := unifyTextsRow.holds Tryz.pinned (OpenSpec.ofChange unifyTextsSpec)

/-- ITS FALSE NEIGHBOUR: 'it returns false'. Refute it at one input. -/
def unifyTextsWrong : ChangeSpec := { name := "unifyTexts", fn := fun _ => fun
  | [d1, d2] => { results := [.lit (.bool false)], args := [d1, d2] }
  | _ => none }
def UnifyTextsWrongFalsely : Prop := unifyTextsRow.holds Tryz.pinned (OpenSpec.ofChange unifyTextsWrong)

/-- 'marginalialaw14.UnifyApplies': WHATEVER THE INPUT: true; the input reads as it did. -/
def unifyAppliesSpec : ChangeSpec := { name := "unifyApplies", fn := fun _ => fun
  | [d1, d2] => { results := [.lit (.bool true)], args := [d1, d2] }
  | _ => none }
def unifyAppliesRow : OpenClaim := { program := "ytplnfepdikbpfaagreatdoor", sum := "ec0bc8283f5ef9a2e478d2d296cfc45a73d860878f0416cca8fe5c73543aac2f", func := "marginalia/marginalialaw14.UnifyApplies", spec := "unifyApplies", inPlace := ["internal/abi.NoEscape", "internal/bytealg.IndexByteString"], unfollowed := true, recurses := true, named := ["internal/strconv.uint64pow10", "math/bits.deBruijn32tab", "math/bits.deBruijn64tab", "strconv.ErrSyntax", "strconv.ErrRange"], loops := true, apart := false, laid := [("math/bits.deBruijn32tab", laid_math_bits_deBruijn32tab), ("math/bits.deBruijn64tab", laid_math_bits_deBruijn64tab), ("internal/strconv.uint64pow10", laid_internal_strconv_uint64pow10), ("strconv.ErrRange", laid_strconv_ErrRange), ("strconv.ErrSyntax", laid_strconv_ErrSyntax)] }
def UnifyAppliesSaid : Prop := unifyAppliesRow.holds Tryz.pinned (OpenSpec.ofChange unifyAppliesSpec)

/-- ITS FALSE NEIGHBOUR: 'it returns false'. Refute it at one input. -/
def unifyAppliesWrong : ChangeSpec := { name := "unifyApplies", fn := fun _ => fun
  | [d1, d2] => { results := [.lit (.bool false)], args := [d1, d2] }
  | _ => none }
def UnifyAppliesWrongFalsely : Prop := unifyAppliesRow.holds Tryz.pinned (OpenSpec.ofChange unifyAppliesWrong)

/-- 'marginalialaw14.UnifyMost': WHATEVER THE INPUT: true; the input reads as it did. -/
def unifyMostSpec : ChangeSpec := { name := "unifyMost", fn := fun _ => fun
  | [d1, d2, d3, d4] => { results := [.lit (.bool true)], args := [d1, d2, d3, d4] }
  | _ => none }
def unifyMostRow : OpenClaim := { program := "ytplnfepdikbpfaagreatdoor", sum := "ec0bc8283f5ef9a2e478d2d296cfc45a73d860878f0416cca8fe5c73543aac2f", func := "marginalia/marginalialaw14.UnifyMost", spec := "unifyMost", inPlace := ["internal/abi.NoEscape", "internal/bytealg.IndexByteString"], unfollowed := true, recurses := true, named := ["internal/strconv.uint64pow10", "math/bits.deBruijn32tab", "math/bits.deBruijn64tab", "strconv.ErrSyntax", "strconv.ErrRange"], loops := true, apart := false, laid := [("math/bits.deBruijn32tab", laid_math_bits_deBruijn32tab), ("math/bits.deBruijn64tab", laid_math_bits_deBruijn64tab), ("internal/strconv.uint64pow10", laid_internal_strconv_uint64pow10), ("strconv.ErrRange", laid_strconv_ErrRange), ("strconv.ErrSyntax", laid_strconv_ErrSyntax)] }
def UnifyMostSaid : Prop := unifyMostRow.holds Tryz.pinned (OpenSpec.ofChange unifyMostSpec)

/-- ITS FALSE NEIGHBOUR: 'it returns false'. Refute it at one input. -/
def unifyMostWrong : ChangeSpec := { name := "unifyMost", fn := fun _ => fun
  | [d1, d2, d3, d4] => { results := [.lit (.bool false)], args := [d1, d2, d3, d4] }
  | _ => none }
def UnifyMostWrongFalsely : Prop := unifyMostRow.holds Tryz.pinned (OpenSpec.ofChange unifyMostWrong)

/-- 'marginalialaw14.UnifyInstances': WHATEVER THE INPUT: true; the input reads as it did. -/
def unifyInstancesSpec : ChangeSpec := { name := "unifyInstances", fn := fun _ => fun
  | [d1, d2, d3] => { results := [.lit (.bool true)], args := [d1, d2, d3] }
  | _ => none }
def unifyInstancesRow : OpenClaim := { program := "ytplnfepdikbpfaagreatdoor", sum := "ec0bc8283f5ef9a2e478d2d296cfc45a73d860878f0416cca8fe5c73543aac2f", func := "marginalia/marginalialaw14.UnifyInstances", spec := "unifyInstances", inPlace := ["internal/abi.NoEscape", "internal/bytealg.IndexByteString"], unfollowed := true, recurses := true, named := ["internal/strconv.uint64pow10", "math/bits.deBruijn32tab", "math/bits.deBruijn64tab", "strconv.ErrSyntax", "strconv.ErrRange"], loops := true, apart := false, laid := [("math/bits.deBruijn32tab", laid_math_bits_deBruijn32tab), ("math/bits.deBruijn64tab", laid_math_bits_deBruijn64tab), ("internal/strconv.uint64pow10", laid_internal_strconv_uint64pow10), ("strconv.ErrRange", laid_strconv_ErrRange), ("strconv.ErrSyntax", laid_strconv_ErrSyntax)] }
def UnifyInstancesSaid : Prop := unifyInstancesRow.holds Tryz.pinned (OpenSpec.ofChange unifyInstancesSpec)

/-- ITS FALSE NEIGHBOUR: 'it returns false'. Refute it at one input. -/
def unifyInstancesWrong : ChangeSpec := { name := "unifyInstances", fn := fun _ => fun
  | [d1, d2, d3] => { results := [.lit (.bool false)], args := [d1, d2, d3] }
  | _ => none }
def UnifyInstancesWrongFalsely : Prop := unifyInstancesRow.holds Tryz.pinned (OpenSpec.ofChange unifyInstancesWrong)

/-- 'marginalialaw14.UnifyGeneral': WHATEVER THE INPUT: true; the input reads as it did. -/
def unifyGeneralSpec : ChangeSpec := { name := "unifyGeneral", fn := fun _ => fun
  | [d1, d2, d3, d4] => { results := [.lit (.bool true)], args := [d1, d2, d3, d4] }
  | _ => none }
def unifyGeneralRow : OpenClaim := { program := "ytplnfepdikbpfaagreatdoor", sum := "ec0bc8283f5ef9a2e478d2d296cfc45a73d860878f0416cca8fe5c73543aac2f", func := "marginalia/marginalialaw14.UnifyGeneral", spec := "unifyGeneral", inPlace := ["internal/abi.NoEscape", "internal/bytealg.IndexByteString"], unfollowed := true, recurses := true, named := ["internal/strconv.uint64pow10", "math/bits.deBruijn32tab", "math/bits.deBruijn64tab", "strconv.ErrSyntax", "strconv.ErrRange"], loops := true, apart := false, laid := [("math/bits.deBruijn32tab", laid_math_bits_deBruijn32tab), ("math/bits.deBruijn64tab", laid_math_bits_deBruijn64tab), ("internal/strconv.uint64pow10", laid_internal_strconv_uint64pow10), ("strconv.ErrRange", laid_strconv_ErrRange), ("strconv.ErrSyntax", laid_strconv_ErrSyntax)] }
def UnifyGeneralSaid : Prop := unifyGeneralRow.holds Tryz.pinned (OpenSpec.ofChange unifyGeneralSpec)

/-- ITS FALSE NEIGHBOUR: 'it returns false'. Refute it at one input. -/
def unifyGeneralWrong : ChangeSpec := { name := "unifyGeneral", fn := fun _ => fun
  | [d1, d2, d3, d4] => { results := [.lit (.bool false)], args := [d1, d2, d3, d4] }
  | _ => none }
def UnifyGeneralWrongFalsely : Prop := unifyGeneralRow.holds Tryz.pinned (OpenSpec.ofChange unifyGeneralWrong)

/-- 'marginalialaw14.UnifyForms': WHATEVER THE INPUT: true; the input reads as it did. -/
def unifyFormsSpec : ChangeSpec := { name := "unifyForms", fn := fun _ => fun
  | [d1, d2, d3] => { results := [.lit (.bool true)], args := [d1, d2, d3] }
  | _ => none }
def unifyFormsRow : OpenClaim := { program := "ytplnfepdikbpfaagreatdoor", sum := "ec0bc8283f5ef9a2e478d2d296cfc45a73d860878f0416cca8fe5c73543aac2f", func := "marginalia/marginalialaw14.UnifyForms", spec := "unifyForms", inPlace := ["internal/abi.NoEscape", "internal/bytealg.IndexByteString"], unfollowed := true, recurses := true, named := ["internal/strconv.uint64pow10", "math/bits.deBruijn32tab", "math/bits.deBruijn64tab", "strconv.ErrSyntax", "strconv.ErrRange"], loops := true, apart := false, laid := [("math/bits.deBruijn32tab", laid_math_bits_deBruijn32tab), ("math/bits.deBruijn64tab", laid_math_bits_deBruijn64tab), ("internal/strconv.uint64pow10", laid_internal_strconv_uint64pow10), ("strconv.ErrRange", laid_strconv_ErrRange), ("strconv.ErrSyntax", laid_strconv_ErrSyntax)] }
def UnifyFormsSaid : Prop := unifyFormsRow.holds Tryz.pinned (OpenSpec.ofChange unifyFormsSpec)

/-- ITS FALSE NEIGHBOUR: 'it returns false'. Refute it at one input. -/
def unifyFormsWrong : ChangeSpec := { name := "unifyForms", fn := fun _ => fun
  | [d1, d2, d3] => { results := [.lit (.bool false)], args := [d1, d2, d3] }
  | _ => none }
def UnifyFormsWrongFalsely : Prop := unifyFormsRow.holds Tryz.pinned (OpenSpec.ofChange unifyFormsWrong)

/-- 'marginalialaw14.UnifyNew': WHATEVER THE INPUT: true; the input reads as it did. -/
def unifyNewSpec : ChangeSpec := { name := "unifyNew", fn := fun _ => fun
  | [d1, d2] => { results := [.lit (.bool true)], args := [d1, d2] }
  | _ => none }
def unifyNewRow : OpenClaim := { program := "ytplnfepdikbpfaagreatdoor", sum := "ec0bc8283f5ef9a2e478d2d296cfc45a73d860878f0416cca8fe5c73543aac2f", func := "marginalia/marginalialaw14.UnifyNew", spec := "unifyNew", inPlace := ["internal/abi.NoEscape", "internal/bytealg.IndexByteString"], unfollowed := true, recurses := true, named := ["internal/strconv.uint64pow10", "math/bits.deBruijn32tab", "math/bits.deBruijn64tab", "strconv.ErrSyntax", "strconv.ErrRange"], loops := true, apart := false, laid := [("math/bits.deBruijn32tab", laid_math_bits_deBruijn32tab), ("math/bits.deBruijn64tab", laid_math_bits_deBruijn64tab), ("internal/strconv.uint64pow10", laid_internal_strconv_uint64pow10), ("strconv.ErrRange", laid_strconv_ErrRange), ("strconv.ErrSyntax", laid_strconv_ErrSyntax)] }
def UnifyNewSaid : Prop := unifyNewRow.holds Tryz.pinned (OpenSpec.ofChange unifyNewSpec)

/-- ITS FALSE NEIGHBOUR: 'it returns false'. Refute it at one input. -/
def unifyNewWrong : ChangeSpec := { name := "unifyNew", fn := fun _ => fun
  | [d1, d2] => { results := [.lit (.bool false)], args := [d1, d2] }
  | _ => none }
def UnifyNewWrongFalsely : Prop := unifyNewRow.holds Tryz.pinned (OpenSpec.ofChange unifyNewWrong)

/- THE SECOND FORM. 'bulk': how many values and letters a reading holds, each counted each time it is reached (what is shared counts as often as it is met; a slice's spare places count too). A statement '..UptoSaid' is the law's where the arguments, and the package variables that the reading takes, are together of bulk at most 1048576: NARROWER than '..Said'. Prove '..Said' where nothing that the law and all that it calls make is longer than what came in: it says more and counts as full. Else prove '..UptoSaid'. A law counts once. -/
mutual
def uptoBulk {H : Type} : DataW H → Nat
  | .lit (.string bytes) => bytes.length + 1
  | .lit _ => 1
  | .nil => 1
  | .ptr d => uptoBulk d + 1
  | .slice elems spare => uptoBulkAll elems + uptoBulkAll spare + 1
  | .agg parts => uptoBulkAll parts + 1
  | .iface _ d => uptoBulk d + 1
  | .map entries => uptoBulkEntries entries + 1
  | .held _ => 1
def uptoBulkAll {H : Type} : List (DataW H) → Nat
  | [] => 0
  | d :: r => uptoBulk d + uptoBulkAll r
def uptoBulkEntries {H : Type} : List (Lit × DataW H) → Nat
  | [] => 0
  | x :: r => uptoBulkEntry x + uptoBulkEntries r
def uptoBulkEntry {H : Type} : Lit × DataW H → Nat
  | (.string bytes, d) => bytes.length + uptoBulk d + 1
  | (_, d) => uptoBulk d + 1
 end
def uptoSmall : (H : Type) → List (DataW H) → Bool := fun _ ds => decide (uptoBulkAll ds ≤ 1048576)
def OpenSpec.upto (s : _root_.Go.ChangeSpec) : _root_.Go.OpenSpec := { _root_.Go.OpenSpec.ofChange s with cond := some uptoSmall }

/-- 'marginalialaw14.UnifyBinds', WHERE WHAT IT READS IS OF BULK AT MOST 1048576: true; the input reads as it did. -/
def unifyBindsUptoRow : OpenClaim := { program := "ytplnfepdikbpfaagreatdoor", sum := "ec0bc8283f5ef9a2e478d2d296cfc45a73d860878f0416cca8fe5c73543aac2f", func := "marginalia/marginalialaw14.UnifyBinds", spec := "unifyBinds", inPlace := ["internal/abi.NoEscape", "internal/bytealg.IndexByteString"], unfollowed := true, recurses := true, named := ["internal/strconv.uint64pow10", "math/bits.deBruijn32tab", "math/bits.deBruijn64tab", "strconv.ErrSyntax", "strconv.ErrRange"], loops := true, apart := false, laid := [("math/bits.deBruijn32tab", laid_math_bits_deBruijn32tab), ("math/bits.deBruijn64tab", laid_math_bits_deBruijn64tab), ("internal/strconv.uint64pow10", laid_internal_strconv_uint64pow10), ("strconv.ErrRange", laid_strconv_ErrRange), ("strconv.ErrSyntax", laid_strconv_ErrSyntax)], narrowed := true }
def UnifyBindsUptoSaid : Prop := unifyBindsUptoRow.holds Tryz.pinned (OpenSpec.upto unifyBindsSpec)

/-- 'marginalialaw14.UnifyParses', WHERE WHAT IT READS IS OF BULK AT MOST 1048576: true; the input reads as it did. -/
def unifyParsesUptoRow : OpenClaim := { program := "ytplnfepdikbpfaagreatdoor", sum := "ec0bc8283f5ef9a2e478d2d296cfc45a73d860878f0416cca8fe5c73543aac2f", func := "marginalia/marginalialaw14.UnifyParses", spec := "unifyParses", inPlace := ["internal/abi.NoEscape", "internal/bytealg.IndexByteString"], unfollowed := true, recurses := true, named := ["strconv.ErrSyntax", "strconv.ErrRange", "internal/strconv.uint64pow10", "math/bits.deBruijn32tab", "math/bits.deBruijn64tab"], apart := false, laid := [("math/bits.deBruijn32tab", laid_math_bits_deBruijn32tab), ("math/bits.deBruijn64tab", laid_math_bits_deBruijn64tab), ("internal/strconv.uint64pow10", laid_internal_strconv_uint64pow10), ("strconv.ErrRange", laid_strconv_ErrRange), ("strconv.ErrSyntax", laid_strconv_ErrSyntax)], narrowed := true }
def UnifyParsesUptoSaid : Prop := unifyParsesUptoRow.holds Tryz.pinned (OpenSpec.upto unifyParsesSpec)

/-- 'marginalialaw14.UnifyBoth', WHERE WHAT IT READS IS OF BULK AT MOST 1048576: true; the input reads as it did. -/
def unifyBothUptoRow : OpenClaim := { program := "ytplnfepdikbpfaagreatdoor", sum := "ec0bc8283f5ef9a2e478d2d296cfc45a73d860878f0416cca8fe5c73543aac2f", func := "marginalia/marginalialaw14.UnifyBoth", spec := "unifyBoth", inPlace := ["internal/abi.NoEscape", "internal/bytealg.IndexByteString"], unfollowed := true, recurses := true, named := ["internal/strconv.uint64pow10", "math/bits.deBruijn32tab", "math/bits.deBruijn64tab", "strconv.ErrSyntax", "strconv.ErrRange"], loops := true, apart := false, laid := [("math/bits.deBruijn32tab", laid_math_bits_deBruijn32tab), ("math/bits.deBruijn64tab", laid_math_bits_deBruijn64tab), ("internal/strconv.uint64pow10", laid_internal_strconv_uint64pow10), ("strconv.ErrRange", laid_strconv_ErrRange), ("strconv.ErrSyntax", laid_strconv_ErrSyntax)], narrowed := true }
def UnifyBothUptoSaid : Prop := unifyBothUptoRow.holds Tryz.pinned (OpenSpec.upto unifyBothSpec)

/-- 'marginalialaw14.UnifyAgain', WHERE WHAT IT READS IS OF BULK AT MOST 1048576: true; the input reads as it did. -/
def unifyAgainUptoRow : OpenClaim := { program := "ytplnfepdikbpfaagreatdoor", sum := "ec0bc8283f5ef9a2e478d2d296cfc45a73d860878f0416cca8fe5c73543aac2f", func := "marginalia/marginalialaw14.UnifyAgain", spec := "unifyAgain", inPlace := ["internal/abi.NoEscape", "internal/bytealg.IndexByteString"], unfollowed := true, recurses := true, named := ["internal/strconv.uint64pow10", "math/bits.deBruijn32tab", "math/bits.deBruijn64tab", "strconv.ErrSyntax", "strconv.ErrRange"], loops := true, apart := false, laid := [("math/bits.deBruijn32tab", laid_math_bits_deBruijn32tab), ("math/bits.deBruijn64tab", laid_math_bits_deBruijn64tab), ("internal/strconv.uint64pow10", laid_internal_strconv_uint64pow10), ("strconv.ErrRange", laid_strconv_ErrRange), ("strconv.ErrSyntax", laid_strconv_ErrSyntax)], narrowed := true }
def UnifyAgainUptoSaid : Prop := unifyAgainUptoRow.holds Tryz.pinned (OpenSpec.upto unifyAgainSpec)

/-- 'marginalialaw14.UnifyTexts', WHERE WHAT IT READS IS OF BULK AT MOST 1048576: true; the input reads as it did. -/
def unifyTextsUptoRow : OpenClaim := { program := "ytplnfepdikbpfaagreatdoor", sum := "ec0bc8283f5ef9a2e478d2d296cfc45a73d860878f0416cca8fe5c73543aac2f", func := "marginalia/marginalialaw14.UnifyTexts", spec := "unifyTexts", inPlace := ["internal/abi.NoEscape", "internal/bytealg.IndexByteString"], unfollowed := true, recurses := true, named := ["internal/strconv.uint64pow10", "math/bits.deBruijn32tab", "math/bits.deBruijn64tab", "strconv.ErrSyntax", "strconv.ErrRange"], loops := true, apart := false, laid := [("math/bits.deBruijn32tab", laid_math_bits_deBruijn32tab), ("math/bits.deBruijn64tab", laid_math_bits_deBruijn64tab), ("internal/strconv.uint64pow10", laid_internal_strconv_uint64pow10), ("strconv.ErrRange", laid_strconv_ErrRange), ("strconv.ErrSyntax", laid_strconv_ErrSyntax)], narrowed := true }
def UnifyTextsUptoSaid : Prop := unifyTextsUptoRow.holds Tryz.pinned (OpenSpec.upto unifyTextsSpec)

/-- 'marginalialaw14.UnifyApplies', WHERE WHAT IT READS IS OF BULK AT MOST 1048576: true; the input reads as it did. -/
def unifyAppliesUptoRow : OpenClaim := { program := "ytplnfepdikbpfaagreatdoor", sum := "ec0bc8283f5ef9a2e478d2d296cfc45a73d860878f0416cca8fe5c73543aac2f", func := "marginalia/marginalialaw14.UnifyApplies", spec := "unifyApplies", inPlace := ["internal/abi.NoEscape", "internal/bytealg.IndexByteString"], unfollowed := true, recurses := true, named := ["internal/strconv.uint64pow10", "math/bits.deBruijn32tab", "math/bits.deBruijn64tab", "strconv.ErrSyntax", "strconv.ErrRange"], loops := true, apart := false, laid := [("math/bits.deBruijn32tab", laid_math_bits_deBruijn32tab), ("math/bits.deBruijn64tab", laid_math_bits_deBruijn64tab), ("internal/strconv.uint64pow10", laid_internal_strconv_uint64pow10), ("strconv.ErrRange", laid_strconv_ErrRange), ("strconv.ErrSyntax", laid_strconv_ErrSyntax)], narrowed := true }
def UnifyAppliesUptoSaid : Prop := unifyAppliesUptoRow.holds Tryz.pinned (OpenSpec.upto unifyAppliesSpec)

/-- 'marginalialaw14.UnifyMost', WHERE WHAT IT READS IS OF BULK AT MOST 1048576: true; the input reads as it did. -/
def unifyMostUptoRow : OpenClaim := { program := "ytplnfepdikbpfaagreatdoor", sum := "ec0bc8283f5ef9a2e478d2d296cfc45a73d860878f0416cca8fe5c73543aac2f", func := "marginalia/marginalialaw14.UnifyMost", spec := "unifyMost", inPlace := ["internal/abi.NoEscape", "internal/bytealg.IndexByteString"], unfollowed := true, recurses := true, named := ["internal/strconv.uint64pow10", "math/bits.deBruijn32tab", "math/bits.deBruijn64tab", "strconv.ErrSyntax", "strconv.ErrRange"], loops := true, apart := false, laid := [("math/bits.deBruijn32tab", laid_math_bits_deBruijn32tab), ("math/bits.deBruijn64tab", laid_math_bits_deBruijn64tab), ("internal/strconv.uint64pow10", laid_internal_strconv_uint64pow10), ("strconv.ErrRange", laid_strconv_ErrRange), ("strconv.ErrSyntax", laid_strconv_ErrSyntax)], narrowed := true }
def UnifyMostUptoSaid : Prop := unifyMostUptoRow.holds Tryz.pinned (OpenSpec.upto unifyMostSpec)

/-- 'marginalialaw14.UnifyInstances', WHERE WHAT IT READS IS OF BULK AT MOST 1048576: true; the input reads as it did. -/
def unifyInstancesUptoRow : OpenClaim := { program := "ytplnfepdikbpfaagreatdoor", sum := "ec0bc8283f5ef9a2e478d2d296cfc45a73d860878f0416cca8fe5c73543aac2f", func := "marginalia/marginalialaw14.UnifyInstances", spec := "unifyInstances", inPlace := ["internal/abi.NoEscape", "internal/bytealg.IndexByteString"], unfollowed := true, recurses := true, named := ["internal/strconv.uint64pow10", "math/bits.deBruijn32tab", "math/bits.deBruijn64tab", "strconv.ErrSyntax", "strconv.ErrRange"], loops := true, apart := false, laid := [("math/bits.deBruijn32tab", laid_math_bits_deBruijn32tab), ("math/bits.deBruijn64tab", laid_math_bits_deBruijn64tab), ("internal/strconv.uint64pow10", laid_internal_strconv_uint64pow10), ("strconv.ErrRange", laid_strconv_ErrRange), ("strconv.ErrSyntax", laid_strconv_ErrSyntax)], narrowed := true }
def UnifyInstancesUptoSaid : Prop := unifyInstancesUptoRow.holds Tryz.pinned (OpenSpec.upto unifyInstancesSpec)

/-- 'marginalialaw14.UnifyGeneral', WHERE WHAT IT READS IS OF BULK AT MOST 1048576: true; the input reads as it did. -/
def unifyGeneralUptoRow : OpenClaim := { program := "ytplnfepdikbpfaagreatdoor", sum := "ec0bc8283f5ef9a2e478d2d296cfc45a73d860878f0416cca8fe5c73543aac2f", func := "marginalia/marginalialaw14.UnifyGeneral", spec := "unifyGeneral", inPlace := ["internal/abi.NoEscape", "internal/bytealg.IndexByteString"], unfollowed := true, recurses := true, named := ["internal/strconv.uint64pow10", "math/bits.deBruijn32tab", "math/bits.deBruijn64tab", "strconv.ErrSyntax", "strconv.ErrRange"], loops := true, apart := false, laid := [("math/bits.deBruijn32tab", laid_math_bits_deBruijn32tab), ("math/bits.deBruijn64tab", laid_math_bits_deBruijn64tab), ("internal/strconv.uint64pow10", laid_internal_strconv_uint64pow10), ("strconv.ErrRange", laid_strconv_ErrRange), ("strconv.ErrSyntax", laid_strconv_ErrSyntax)], narrowed := true }
def UnifyGeneralUptoSaid : Prop := unifyGeneralUptoRow.holds Tryz.pinned (OpenSpec.upto unifyGeneralSpec)

/-- 'marginalialaw14.UnifyForms', WHERE WHAT IT READS IS OF BULK AT MOST 1048576: true; the input reads as it did. -/
def unifyFormsUptoRow : OpenClaim := { program := "ytplnfepdikbpfaagreatdoor", sum := "ec0bc8283f5ef9a2e478d2d296cfc45a73d860878f0416cca8fe5c73543aac2f", func := "marginalia/marginalialaw14.UnifyForms", spec := "unifyForms", inPlace := ["internal/abi.NoEscape", "internal/bytealg.IndexByteString"], unfollowed := true, recurses := true, named := ["internal/strconv.uint64pow10", "math/bits.deBruijn32tab", "math/bits.deBruijn64tab", "strconv.ErrSyntax", "strconv.ErrRange"], loops := true, apart := false, laid := [("math/bits.deBruijn32tab", laid_math_bits_deBruijn32tab), ("math/bits.deBruijn64tab", laid_math_bits_deBruijn64tab), ("internal/strconv.uint64pow10", laid_internal_strconv_uint64pow10), ("strconv.ErrRange", laid_strconv_ErrRange), ("strconv.ErrSyntax", laid_strconv_ErrSyntax)], narrowed := true }
def UnifyFormsUptoSaid : Prop := unifyFormsUptoRow.holds Tryz.pinned (OpenSpec.upto unifyFormsSpec)

/-- 'marginalialaw14.UnifyNew', WHERE WHAT IT READS IS OF BULK AT MOST 1048576: true; the input reads as it did. -/
def unifyNewUptoRow : OpenClaim := { program := "ytplnfepdikbpfaagreatdoor", sum := "ec0bc8283f5ef9a2e478d2d296cfc45a73d860878f0416cca8fe5c73543aac2f", func := "marginalia/marginalialaw14.UnifyNew", spec := "unifyNew", inPlace := ["internal/abi.NoEscape", "internal/bytealg.IndexByteString"], unfollowed := true, recurses := true, named := ["internal/strconv.uint64pow10", "math/bits.deBruijn32tab", "math/bits.deBruijn64tab", "strconv.ErrSyntax", "strconv.ErrRange"], loops := true, apart := false, laid := [("math/bits.deBruijn32tab", laid_math_bits_deBruijn32tab), ("math/bits.deBruijn64tab", laid_math_bits_deBruijn64tab), ("internal/strconv.uint64pow10", laid_internal_strconv_uint64pow10), ("strconv.ErrRange", laid_strconv_ErrRange), ("strconv.ErrSyntax", laid_strconv_ErrSyntax)], narrowed := true }
def UnifyNewUptoSaid : Prop := unifyNewUptoRow.holds Tryz.pinned (OpenSpec.upto unifyNewSpec)

end Rows
end Go.Proofs.YtplnfepdikbpfaaGreatDoor
