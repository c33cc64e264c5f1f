/-
  NARROWER THAN 'FOR EVERY INPUT', by the rows' own cells (each row's printed sentence says how): FnExactFormatEnd: laid · FnExactFormatNet: laid · FnEndText: laid · FnNetText: laid · FnExactFormatTable: laid · FnTableText: laid · FnTableTextEmpty: laid · FnEndRoundTrip: laid · FnNetRoundTrip: laid · FnExactParseNet: laid · FnExactParseEnd: laid · FnNetCanonical: laid · FnEndCanonical: laid.
  DERIVED. THE GIVEN ROWS OF THIS SEAT. 13 by the template 'for every input the law returns true; each argument reads behind the call as it read before'; 0 by the template 'total and deterministic' (their statements: YthlaldikdlljfaaDoorTotals.lean).
  GIVEN WITH THE SEED: the statements are not yours to turn. If you find one false, say at which input.
  Laid BY PROGRAM, IN A SANDBOX (cutbox-rows.mjs): the forced cells as the released guide's own fill.sh prints them over the translation b4c3abf2fa721e89… (all of the seat's roots in one cut). By AI agents, Wed Nov 11 2026. No macro, syntax, notation, axiom, sorry.
-/
import Derived.Test.YthlaldikdlljfaaDoorChecked
import GoSem.Claim
import GoSem.ClaimJoined
import GoSem.ClaimMapViews
import Derived.JoinedTies
import Derived.KernelRfl
namespace Go.Proofs.YthlaldikdlljfaaDoor
/- THE CELL 'sum', in the pinned program and in every row, IS THE sha256 OF THE DUMP (.gsa) THAT YthlaldikdlljfaaDoorProg.lean LOADS. Nothing in Lean hashes anything: it is a label: what it is worth is what the hold of that sum in a sandbox is worth. -/
noncomputable def Tryd.pinned : Pinned := { name := "ythlaldikdlljfaadoor", sum := "b4c3abf2fa721e89479a8786ebc9010ebca30acb256d5fdffc3c9bdb3cde354c", checked := Tryd.checked }
namespace Rows
def none {H : Type} : Left H := { results := [], args := [] }

/- WHAT THE LISTED PACKAGE-LEVEL VARIABLES READ AS WHEN THE CALL BEGINS. Each datum BY PROGRAM (the guide's laid-datum.mjs) off the statement by which the dump's own 'gosem.cut.vars' lays the variable. In a bare row this is a premise. The card (YthlaldikdlljfaaDoorCards.lean) ties it to the program's text. -/
def laid_math_bits_deBruijn32tab {H : Type} : DataW H := .agg [.lit (.int .u8 0), .lit (.int .u8 1), .lit (.int .u8 28), .lit (.int .u8 2), .lit (.int .u8 29), .lit (.int .u8 14), .lit (.int .u8 24), .lit (.int .u8 3), .lit (.int .u8 30), .lit (.int .u8 22), .lit (.int .u8 20), .lit (.int .u8 15), .lit (.int .u8 25), .lit (.int .u8 17), .lit (.int .u8 4), .lit (.int .u8 8), .lit (.int .u8 31), .lit (.int .u8 27), .lit (.int .u8 13), .lit (.int .u8 23), .lit (.int .u8 21), .lit (.int .u8 19), .lit (.int .u8 16), .lit (.int .u8 7), .lit (.int .u8 26), .lit (.int .u8 12), .lit (.int .u8 18), .lit (.int .u8 6), .lit (.int .u8 11), .lit (.int .u8 5), .lit (.int .u8 10), .lit (.int .u8 9)]
def laid_math_bits_deBruijn64tab {H : Type} : DataW H := .agg [.lit (.int .u8 0), .lit (.int .u8 1), .lit (.int .u8 56), .lit (.int .u8 2), .lit (.int .u8 57), .lit (.int .u8 49), .lit (.int .u8 28), .lit (.int .u8 3), .lit (.int .u8 61), .lit (.int .u8 58), .lit (.int .u8 42), .lit (.int .u8 50), .lit (.int .u8 38), .lit (.int .u8 29), .lit (.int .u8 17), .lit (.int .u8 4), .lit (.int .u8 62), .lit (.int .u8 47), .lit (.int .u8 59), .lit (.int .u8 36), .lit (.int .u8 45), .lit (.int .u8 43), .lit (.int .u8 51), .lit (.int .u8 22), .lit (.int .u8 53), .lit (.int .u8 39), .lit (.int .u8 33), .lit (.int .u8 30), .lit (.int .u8 24), .lit (.int .u8 18), .lit (.int .u8 12), .lit (.int .u8 5), .lit (.int .u8 63), .lit (.int .u8 55), .lit (.int .u8 48), .lit (.int .u8 27), .lit (.int .u8 60), .lit (.int .u8 41), .lit (.int .u8 37), .lit (.int .u8 16), .lit (.int .u8 46), .lit (.int .u8 35), .lit (.int .u8 44), .lit (.int .u8 21), .lit (.int .u8 52), .lit (.int .u8 32), .lit (.int .u8 23), .lit (.int .u8 11), .lit (.int .u8 54), .lit (.int .u8 26), .lit (.int .u8 40), .lit (.int .u8 15), .lit (.int .u8 34), .lit (.int .u8 20), .lit (.int .u8 31), .lit (.int .u8 10), .lit (.int .u8 25), .lit (.int .u8 14), .lit (.int .u8 19), .lit (.int .u8 9), .lit (.int .u8 13), .lit (.int .u8 8), .lit (.int .u8 7), .lit (.int .u8 6)]
def laid_internal_strconv_uint64pow10 {H : Type} : DataW H := .agg [.lit (.int .u64 1), .lit (.int .u64 10), .lit (.int .u64 100), .lit (.int .u64 1000), .lit (.int .u64 10000), .lit (.int .u64 100000), .lit (.int .u64 1000000), .lit (.int .u64 10000000), .lit (.int .u64 100000000), .lit (.int .u64 1000000000), .lit (.int .u64 10000000000), .lit (.int .u64 100000000000), .lit (.int .u64 1000000000000), .lit (.int .u64 10000000000000), .lit (.int .u64 100000000000000), .lit (.int .u64 1000000000000000), .lit (.int .u64 10000000000000000), .lit (.int .u64 100000000000000000), .lit (.int .u64 1000000000000000000), .lit (.int .u64 10000000000000000000)]
def laid_strconv_ErrRange {H : Type} : DataW H := .iface "*errors.errorString" (.ptr (.agg [.lit (.string [118, 97, 108, 117, 101, 32, 111, 117, 116, 32, 111, 102, 32, 114, 97, 110, 103, 101])]))
def laid_strconv_ErrSyntax {H : Type} : DataW H := .iface "*errors.errorString" (.ptr (.agg [.lit (.string [105, 110, 118, 97, 108, 105, 100, 32, 115, 121, 110, 116, 97, 120])]))

/-- 'laws.FnExactFormatEnd': WHATEVER THE INPUT: true; the input reads as it did. -/
def fnExactFormatEndSpec : ChangeSpec := { name := "fnExactFormatEnd", fn := fun _ => fun
  | [d] => { results := [.lit (.bool true)], args := [d] }
  | _ => none }
def fnExactFormatEndRow : OpenClaim := { program := "ythlaldikdlljfaadoor", sum := "b4c3abf2fa721e89479a8786ebc9010ebca30acb256d5fdffc3c9bdb3cde354c", func := "loop.example/portmapper/laws.FnExactFormatEnd", spec := "fnExactFormatEnd", recurses := true, named := ["internal/strconv.uint64pow10", "math/bits.deBruijn32tab", "math/bits.deBruijn64tab"], apart := false, laid := [("math/bits.deBruijn32tab", laid_math_bits_deBruijn32tab), ("math/bits.deBruijn64tab", laid_math_bits_deBruijn64tab), ("internal/strconv.uint64pow10", laid_internal_strconv_uint64pow10)] }
def FnExactFormatEndSaid : Prop := fnExactFormatEndRow.holds Tryd.pinned (OpenSpec.ofChange fnExactFormatEndSpec)

/-- ITS FALSE NEIGHBOUR: 'it returns false'. Refute it at one input. -/
def fnExactFormatEndWrong : ChangeSpec := { name := "fnExactFormatEnd", fn := fun _ => fun
  | [d] => { results := [.lit (.bool false)], args := [d] }
  | _ => none }
def FnExactFormatEndWrongFalsely : Prop := fnExactFormatEndRow.holds Tryd.pinned (OpenSpec.ofChange fnExactFormatEndWrong)

/-- 'laws.FnExactFormatNet': WHATEVER THE INPUT: true; the input reads as it did. -/
def fnExactFormatNetSpec : ChangeSpec := { name := "fnExactFormatNet", fn := fun _ => fun
  | [d] => { results := [.lit (.bool true)], args := [d] }
  | _ => none }
def fnExactFormatNetRow : OpenClaim := { program := "ythlaldikdlljfaadoor", sum := "b4c3abf2fa721e89479a8786ebc9010ebca30acb256d5fdffc3c9bdb3cde354c", func := "loop.example/portmapper/laws.FnExactFormatNet", spec := "fnExactFormatNet", recurses := true, named := ["internal/strconv.uint64pow10", "math/bits.deBruijn32tab", "math/bits.deBruijn64tab"], apart := false, laid := [("math/bits.deBruijn32tab", laid_math_bits_deBruijn32tab), ("math/bits.deBruijn64tab", laid_math_bits_deBruijn64tab), ("internal/strconv.uint64pow10", laid_internal_strconv_uint64pow10)] }
def FnExactFormatNetSaid : Prop := fnExactFormatNetRow.holds Tryd.pinned (OpenSpec.ofChange fnExactFormatNetSpec)

/-- ITS FALSE NEIGHBOUR: 'it returns false'. Refute it at one input. -/
def fnExactFormatNetWrong : ChangeSpec := { name := "fnExactFormatNet", fn := fun _ => fun
  | [d] => { results := [.lit (.bool false)], args := [d] }
  | _ => none }
def FnExactFormatNetWrongFalsely : Prop := fnExactFormatNetRow.holds Tryd.pinned (OpenSpec.ofChange fnExactFormatNetWrong)

/-- 'laws.FnEndText': WHATEVER THE INPUT: true; the input reads as it did. -/
def fnEndTextSpec : ChangeSpec := { name := "fnEndText", fn := fun _ => fun
  | [d] => { results := [.lit (.bool true)], args := [d] }
  | _ => none }
def fnEndTextRow : OpenClaim := { program := "ythlaldikdlljfaadoor", sum := "b4c3abf2fa721e89479a8786ebc9010ebca30acb256d5fdffc3c9bdb3cde354c", func := "loop.example/portmapper/laws.FnEndText", spec := "fnEndText", recurses := true, named := ["internal/strconv.uint64pow10", "math/bits.deBruijn32tab", "math/bits.deBruijn64tab"], apart := false, laid := [("math/bits.deBruijn32tab", laid_math_bits_deBruijn32tab), ("math/bits.deBruijn64tab", laid_math_bits_deBruijn64tab), ("internal/strconv.uint64pow10", laid_internal_strconv_uint64pow10)] }
def FnEndTextSaid : Prop := fnEndTextRow.holds Tryd.pinned (OpenSpec.ofChange fnEndTextSpec)

/-- ITS FALSE NEIGHBOUR: 'it returns false'. Refute it at one input. -/
def fnEndTextWrong : ChangeSpec := { name := "fnEndText", fn := fun _ => fun
  | [d] => { results := [.lit (.bool false)], args := [d] }
  | _ => none }
def FnEndTextWrongFalsely : Prop := fnEndTextRow.holds Tryd.pinned (OpenSpec.ofChange fnEndTextWrong)

/-- 'laws.FnNetText': WHATEVER THE INPUT: true; the input reads as it did. -/
def fnNetTextSpec : ChangeSpec := { name := "fnNetText", fn := fun _ => fun
  | [d] => { results := [.lit (.bool true)], args := [d] }
  | _ => none }
def fnNetTextRow : OpenClaim := { program := "ythlaldikdlljfaadoor", sum := "b4c3abf2fa721e89479a8786ebc9010ebca30acb256d5fdffc3c9bdb3cde354c", func := "loop.example/portmapper/laws.FnNetText", spec := "fnNetText", recurses := true, named := ["internal/strconv.uint64pow10", "math/bits.deBruijn32tab", "math/bits.deBruijn64tab"], apart := false, laid := [("math/bits.deBruijn32tab", laid_math_bits_deBruijn32tab), ("math/bits.deBruijn64tab", laid_math_bits_deBruijn64tab), ("internal/strconv.uint64pow10", laid_internal_strconv_uint64pow10)] }
def FnNetTextSaid : Prop := fnNetTextRow.holds Tryd.pinned (OpenSpec.ofChange fnNetTextSpec)

/-- ITS FALSE NEIGHBOUR: 'it returns false'. Refute it at one input. -/
def fnNetTextWrong : ChangeSpec := { name := "fnNetText", fn := fun _ => fun
  | [d] => { results := [.lit (.bool false)], args := [d] }
  | _ => none }
def FnNetTextWrongFalsely : Prop := fnNetTextRow.holds Tryd.pinned (OpenSpec.ofChange fnNetTextWrong)

/-- 'laws.FnExactFormatTable': WHATEVER THE INPUT: true; the input reads as it did. -/
def fnExactFormatTableSpec : ChangeSpec := { name := "fnExactFormatTable", fn := fun _ => fun
  | [d] => { results := [.lit (.bool true)], args := [d] }
  | _ => none }
def fnExactFormatTableRow : OpenClaim := { program := "ythlaldikdlljfaadoor", sum := "b4c3abf2fa721e89479a8786ebc9010ebca30acb256d5fdffc3c9bdb3cde354c", func := "loop.example/portmapper/laws.FnExactFormatTable", spec := "fnExactFormatTable", inPlace := ["internal/abi.NoEscape", "internal/bytealg.MakeNoZero"], unfollowed := true, recurses := true, named := ["internal/strconv.uint64pow10", "math/bits.deBruijn32tab", "math/bits.deBruijn64tab"], apart := false, laid := [("math/bits.deBruijn32tab", laid_math_bits_deBruijn32tab), ("math/bits.deBruijn64tab", laid_math_bits_deBruijn64tab), ("internal/strconv.uint64pow10", laid_internal_strconv_uint64pow10)] }
def FnExactFormatTableSaid : Prop := fnExactFormatTableRow.holds Tryd.pinned (OpenSpec.ofChange fnExactFormatTableSpec)

/-- ITS FALSE NEIGHBOUR: 'it returns false'. Refute it at one input. -/
def fnExactFormatTableWrong : ChangeSpec := { name := "fnExactFormatTable", fn := fun _ => fun
  | [d] => { results := [.lit (.bool false)], args := [d] }
  | _ => none }
def FnExactFormatTableWrongFalsely : Prop := fnExactFormatTableRow.holds Tryd.pinned (OpenSpec.ofChange fnExactFormatTableWrong)

/-- 'laws.FnTableText': WHATEVER THE INPUT: true; the input reads as it did. -/
def fnTableTextSpec : ChangeSpec := { name := "fnTableText", fn := fun _ => fun
  | [d] => { results := [.lit (.bool true)], args := [d] }
  | _ => none }
def fnTableTextRow : OpenClaim := { program := "ythlaldikdlljfaadoor", sum := "b4c3abf2fa721e89479a8786ebc9010ebca30acb256d5fdffc3c9bdb3cde354c", func := "loop.example/portmapper/laws.FnTableText", spec := "fnTableText", inPlace := ["internal/abi.NoEscape", "internal/bytealg.MakeNoZero"], unfollowed := true, recurses := true, named := ["internal/strconv.uint64pow10", "math/bits.deBruijn32tab", "math/bits.deBruijn64tab"], apart := false, laid := [("math/bits.deBruijn32tab", laid_math_bits_deBruijn32tab), ("math/bits.deBruijn64tab", laid_math_bits_deBruijn64tab), ("internal/strconv.uint64pow10", laid_internal_strconv_uint64pow10)] }
def FnTableTextSaid : Prop := fnTableTextRow.holds Tryd.pinned (OpenSpec.ofChange fnTableTextSpec)

/-- ITS FALSE NEIGHBOUR: 'it returns false'. Refute it at one input. -/
def fnTableTextWrong : ChangeSpec := { name := "fnTableText", fn := fun _ => fun
  | [d] => { results := [.lit (.bool false)], args := [d] }
  | _ => none }
def FnTableTextWrongFalsely : Prop := fnTableTextRow.holds Tryd.pinned (OpenSpec.ofChange fnTableTextWrong)

/-- 'laws.FnTableTextEmpty': WHATEVER THE INPUT: true; the input reads as it did. -/
def fnTableTextEmptySpec : ChangeSpec := { name := "fnTableTextEmpty", fn := fun _ => fun
  | [d] => { results := [.lit (.bool true)], args := [d] }
  | _ => none }
def fnTableTextEmptyRow : OpenClaim := { program := "ythlaldikdlljfaadoor", sum := "b4c3abf2fa721e89479a8786ebc9010ebca30acb256d5fdffc3c9bdb3cde354c", func := "loop.example/portmapper/laws.FnTableTextEmpty", spec := "fnTableTextEmpty", inPlace := ["internal/abi.NoEscape", "internal/bytealg.MakeNoZero"], unfollowed := true, recurses := true, named := ["internal/strconv.uint64pow10", "math/bits.deBruijn32tab", "math/bits.deBruijn64tab"], apart := false, laid := [("math/bits.deBruijn32tab", laid_math_bits_deBruijn32tab), ("math/bits.deBruijn64tab", laid_math_bits_deBruijn64tab), ("internal/strconv.uint64pow10", laid_internal_strconv_uint64pow10)] }
def FnTableTextEmptySaid : Prop := fnTableTextEmptyRow.holds Tryd.pinned (OpenSpec.ofChange fnTableTextEmptySpec)

/-- ITS FALSE NEIGHBOUR: 'it returns false'. Refute it at one input. -/
def fnTableTextEmptyWrong : ChangeSpec := { name := "fnTableTextEmpty", fn := fun _ => fun
  | [d] => { results := [.lit (.bool false)], args := [d] }
  | _ => none }
def FnTableTextEmptyWrongFalsely : Prop := fnTableTextEmptyRow.holds Tryd.pinned (OpenSpec.ofChange fnTableTextEmptyWrong)

/-- 'laws.FnEndRoundTrip': WHATEVER THE INPUT: true; the input reads as it did. -/
def fnEndRoundTripSpec : ChangeSpec := { name := "fnEndRoundTrip", fn := fun _ => fun
  | [d] => { results := [.lit (.bool true)], args := [d] }
  | _ => none }
def fnEndRoundTripRow : OpenClaim := { program := "ythlaldikdlljfaadoor", sum := "b4c3abf2fa721e89479a8786ebc9010ebca30acb256d5fdffc3c9bdb3cde354c", func := "loop.example/portmapper/laws.FnEndRoundTrip", spec := "fnEndRoundTrip", inPlace := ["internal/bytealg.IndexByteString", "internal/bytealg.IndexString"], recurses := true, named := ["internal/strconv.uint64pow10", "math/bits.deBruijn32tab", "math/bits.deBruijn64tab", "internal/bytealg.MaxLen", "strconv.ErrSyntax", "strconv.ErrRange"], apart := false, laid := [("math/bits.deBruijn32tab", laid_math_bits_deBruijn32tab), ("math/bits.deBruijn64tab", laid_math_bits_deBruijn64tab), ("internal/strconv.uint64pow10", laid_internal_strconv_uint64pow10), ("strconv.ErrRange", laid_strconv_ErrRange), ("strconv.ErrSyntax", laid_strconv_ErrSyntax)] }
def FnEndRoundTripSaid : Prop := fnEndRoundTripRow.holds Tryd.pinned (OpenSpec.ofChange fnEndRoundTripSpec)

/-- ITS FALSE NEIGHBOUR: 'it returns false'. Refute it at one input. -/
def fnEndRoundTripWrong : ChangeSpec := { name := "fnEndRoundTrip", fn := fun _ => fun
  | [d] => { results := [.lit (.bool false)], args := [d] }
  | _ => none }
def FnEndRoundTripWrongFalsely : Prop := fnEndRoundTripRow.holds Tryd.pinned (OpenSpec.ofChange fnEndRoundTripWrong)

/-- 'laws.FnNetRoundTrip': WHATEVER THE INPUT: true; the input reads as it did. -/
def fnNetRoundTripSpec : ChangeSpec := { name := "fnNetRoundTrip", fn := fun _ => fun
  | [d] => { results := [.lit (.bool true)], args := [d] }
  | _ => none }
def fnNetRoundTripRow : OpenClaim := { program := "ythlaldikdlljfaadoor", sum := "b4c3abf2fa721e89479a8786ebc9010ebca30acb256d5fdffc3c9bdb3cde354c", func := "loop.example/portmapper/laws.FnNetRoundTrip", spec := "fnNetRoundTrip", inPlace := ["internal/bytealg.IndexByteString", "internal/bytealg.IndexString"], recurses := true, named := ["internal/strconv.uint64pow10", "math/bits.deBruijn32tab", "math/bits.deBruijn64tab", "internal/bytealg.MaxLen", "strconv.ErrSyntax", "strconv.ErrRange"], apart := false, laid := [("math/bits.deBruijn32tab", laid_math_bits_deBruijn32tab), ("math/bits.deBruijn64tab", laid_math_bits_deBruijn64tab), ("internal/strconv.uint64pow10", laid_internal_strconv_uint64pow10), ("strconv.ErrRange", laid_strconv_ErrRange), ("strconv.ErrSyntax", laid_strconv_ErrSyntax)] }
def FnNetRoundTripSaid : Prop := fnNetRoundTripRow.holds Tryd.pinned (OpenSpec.ofChange fnNetRoundTripSpec)

/-- ITS FALSE NEIGHBOUR: 'it returns false'. Refute it at one input. -/
def fnNetRoundTripWrong : ChangeSpec := { name := "fnNetRoundTrip", fn := fun _ => fun
  | [d] => { results := [.lit (.bool false)], args := [d] }
  | _ => none }
def FnNetRoundTripWrongFalsely : Prop := fnNetRoundTripRow.holds Tryd.pinned (OpenSpec.ofChange fnNetRoundTripWrong)

/-- 'laws.FnExactParseNet': WHATEVER THE INPUT: true; the input reads as it did. -/
def fnExactParseNetSpec : ChangeSpec := { name := "fnExactParseNet", fn := fun _ => fun
  | [d] => { results := [.lit (.bool true)], args := [d] }
  | _ => none }
def fnExactParseNetRow : OpenClaim := { program := "ythlaldikdlljfaadoor", sum := "b4c3abf2fa721e89479a8786ebc9010ebca30acb256d5fdffc3c9bdb3cde354c", func := "loop.example/portmapper/laws.FnExactParseNet", spec := "fnExactParseNet", inPlace := ["internal/bytealg.IndexByteString", "internal/bytealg.IndexString"], recurses := true, named := ["internal/bytealg.MaxLen", "strconv.ErrSyntax", "strconv.ErrRange", "internal/strconv.uint64pow10", "math/bits.deBruijn32tab", "math/bits.deBruijn64tab"], apart := false, laid := [("math/bits.deBruijn32tab", laid_math_bits_deBruijn32tab), ("math/bits.deBruijn64tab", laid_math_bits_deBruijn64tab), ("internal/strconv.uint64pow10", laid_internal_strconv_uint64pow10), ("strconv.ErrRange", laid_strconv_ErrRange), ("strconv.ErrSyntax", laid_strconv_ErrSyntax)] }
def FnExactParseNetSaid : Prop := fnExactParseNetRow.holds Tryd.pinned (OpenSpec.ofChange fnExactParseNetSpec)

/-- ITS FALSE NEIGHBOUR: 'it returns false'. Refute it at one input. -/
def fnExactParseNetWrong : ChangeSpec := { name := "fnExactParseNet", fn := fun _ => fun
  | [d] => { results := [.lit (.bool false)], args := [d] }
  | _ => none }
def FnExactParseNetWrongFalsely : Prop := fnExactParseNetRow.holds Tryd.pinned (OpenSpec.ofChange fnExactParseNetWrong)

/-- 'laws.FnExactParseEnd': WHATEVER THE INPUT: true; the input reads as it did. -/
def fnExactParseEndSpec : ChangeSpec := { name := "fnExactParseEnd", fn := fun _ => fun
  | [d] => { results := [.lit (.bool true)], args := [d] }
  | _ => none }
def fnExactParseEndRow : OpenClaim := { program := "ythlaldikdlljfaadoor", sum := "b4c3abf2fa721e89479a8786ebc9010ebca30acb256d5fdffc3c9bdb3cde354c", func := "loop.example/portmapper/laws.FnExactParseEnd", spec := "fnExactParseEnd", inPlace := ["internal/bytealg.IndexByteString", "internal/bytealg.IndexString"], recurses := true, named := ["internal/bytealg.MaxLen", "strconv.ErrSyntax", "strconv.ErrRange", "internal/strconv.uint64pow10", "math/bits.deBruijn32tab", "math/bits.deBruijn64tab"], apart := false, laid := [("math/bits.deBruijn32tab", laid_math_bits_deBruijn32tab), ("math/bits.deBruijn64tab", laid_math_bits_deBruijn64tab), ("internal/strconv.uint64pow10", laid_internal_strconv_uint64pow10), ("strconv.ErrRange", laid_strconv_ErrRange), ("strconv.ErrSyntax", laid_strconv_ErrSyntax)] }
def FnExactParseEndSaid : Prop := fnExactParseEndRow.holds Tryd.pinned (OpenSpec.ofChange fnExactParseEndSpec)

/-- ITS FALSE NEIGHBOUR: 'it returns false'. Refute it at one input. -/
def fnExactParseEndWrong : ChangeSpec := { name := "fnExactParseEnd", fn := fun _ => fun
  | [d] => { results := [.lit (.bool false)], args := [d] }
  | _ => none }
def FnExactParseEndWrongFalsely : Prop := fnExactParseEndRow.holds Tryd.pinned (OpenSpec.ofChange fnExactParseEndWrong)

/-- 'laws.FnNetCanonical': WHATEVER THE INPUT: true; the input reads as it did. -/
def fnNetCanonicalSpec : ChangeSpec := { name := "fnNetCanonical", fn := fun _ => fun
  | [d] => { results := [.lit (.bool true)], args := [d] }
  | _ => none }
def fnNetCanonicalRow : OpenClaim := { program := "ythlaldikdlljfaadoor", sum := "b4c3abf2fa721e89479a8786ebc9010ebca30acb256d5fdffc3c9bdb3cde354c", func := "loop.example/portmapper/laws.FnNetCanonical", spec := "fnNetCanonical", inPlace := ["internal/bytealg.IndexByteString", "internal/bytealg.IndexString"], recurses := true, named := ["internal/bytealg.MaxLen", "strconv.ErrSyntax", "strconv.ErrRange", "internal/strconv.uint64pow10", "math/bits.deBruijn32tab", "math/bits.deBruijn64tab"], apart := false, laid := [("math/bits.deBruijn32tab", laid_math_bits_deBruijn32tab), ("math/bits.deBruijn64tab", laid_math_bits_deBruijn64tab), ("internal/strconv.uint64pow10", laid_internal_strconv_uint64pow10), ("strconv.ErrRange", laid_strconv_ErrRange), ("strconv.ErrSyntax", laid_strconv_ErrSyntax)] }
def FnNetCanonicalSaid : Prop := fnNetCanonicalRow.holds Tryd.pinned (OpenSpec.ofChange fnNetCanonicalSpec)

/-- ITS FALSE NEIGHBOUR: 'it returns false'. Refute it at one input. -/
def fnNetCanonicalWrong : ChangeSpec := { name := "fnNetCanonical", fn := fun _ => fun
  | [d] => { results := [.lit (.bool false)], args := [d] }
  | _ => none }
def FnNetCanonicalWrongFalsely : Prop := fnNetCanonicalRow.holds Tryd.pinned (OpenSpec.ofChange fnNetCanonicalWrong)

/-- 'laws.FnEndCanonical': WHATEVER THE INPUT: true; the input reads as it did. -/
def fnEndCanonicalSpec : ChangeSpec := { name := "fnEndCanonical", fn := fun _ => fun
  | [d] => { results := [.lit (.bool true)], args := [d] }
  | _ => none }
def fnEndCanonicalRow : OpenClaim := { program := "ythlaldikdlljfaadoor", sum := "b4c3abf2fa721e89479a8786ebc9010ebca30acb256d5fdffc3c9bdb3cde354c", func := "loop.example/portmapper/laws.FnEndCanonical", spec := "fnEndCanonical", inPlace := ["internal/bytealg.IndexByteString", "internal/bytealg.IndexString"], recurses := true, named := ["internal/bytealg.MaxLen", "strconv.ErrSyntax", "strconv.ErrRange", "internal/strconv.uint64pow10", "math/bits.deBruijn32tab", "math/bits.deBruijn64tab"], apart := false, laid := [("math/bits.deBruijn32tab", laid_math_bits_deBruijn32tab), ("math/bits.deBruijn64tab", laid_math_bits_deBruijn64tab), ("internal/strconv.uint64pow10", laid_internal_strconv_uint64pow10), ("strconv.ErrRange", laid_strconv_ErrRange), ("strconv.ErrSyntax", laid_strconv_ErrSyntax)] }
def FnEndCanonicalSaid : Prop := fnEndCanonicalRow.holds Tryd.pinned (OpenSpec.ofChange fnEndCanonicalSpec)

/-- ITS FALSE NEIGHBOUR: 'it returns false'. Refute it at one input. -/
def fnEndCanonicalWrong : ChangeSpec := { name := "fnEndCanonical", fn := fun _ => fun
  | [d] => { results := [.lit (.bool false)], args := [d] }
  | _ => none }
def FnEndCanonicalWrongFalsely : Prop := fnEndCanonicalRow.holds Tryd.pinned (OpenSpec.ofChange fnEndCanonicalWrong)

/- THE SECOND FORM. 'bulk': how many values and letters a reading holds, each counted each time it is reached (what is shared counts as often as it is met; a slice's spare places count too). A statement '..UptoSaid' is the law's where the arguments, and the package variables that the reading takes, are together of bulk at most 1048576: NARROWER than '..Said'. Prove '..Said' where nothing that the law and all that it calls make is longer than what came in: it says more and counts as full. Else prove '..UptoSaid'. A law counts once. -/
mutual
def uptoBulk {H : Type} : DataW H → Nat
  | .lit (.string bytes) => bytes.length + 1
  | .lit _ => 1
  | .nil => 1
  | .ptr d => uptoBulk d + 1
  | .slice elems spare => uptoBulkAll elems + uptoBulkAll spare + 1
  | .agg parts => uptoBulkAll parts + 1
  | .iface _ d => uptoBulk d + 1
  | .map entries => uptoBulkEntries entries + 1
  | .held _ => 1
def uptoBulkAll {H : Type} : List (DataW H) → Nat
  | [] => 0
  | d :: r => uptoBulk d + uptoBulkAll r
def uptoBulkEntries {H : Type} : List (Lit × DataW H) → Nat
  | [] => 0
  | x :: r => uptoBulkEntry x + uptoBulkEntries r
def uptoBulkEntry {H : Type} : Lit × DataW H → Nat
  | (.string bytes, d) => bytes.length + uptoBulk d + 1
  | (_, d) => uptoBulk d + 1
 end
def uptoSmall : (H : Type) → List (DataW H) → Bool := fun _ ds => decide (uptoBulkAll ds ≤ 1048576)
def OpenSpec.upto (s : _root_.Go.ChangeSpec) : _root_.Go.OpenSpec := { _root_.Go.OpenSpec.ofChange s with cond := some uptoSmall }

/-- 'laws.FnExactFormatEnd', WHERE WHAT IT READS IS OF BULK AT MOST 1048576: true; the input reads as it did. -/
def fnExactFormatEndUptoRow : OpenClaim := { program := "ythlaldikdlljfaadoor", sum := "b4c3abf2fa721e89479a8786ebc9010ebca30acb256d5fdffc3c9bdb3cde354c", func := "loop.example/portmapper/laws.FnExactFormatEnd", spec := "fnExactFormatEnd", recurses := true, named := ["internal/strconv.uint64pow10", "math/bits.deBruijn32tab", "math/bits.deBruijn64tab"], apart := false, laid := [("math/bits.deBruijn32tab", laid_math_bits_deBruijn32tab), ("math/bits.deBruijn64tab", laid_math_bits_deBruijn64tab), ("internal/strconv.uint64pow10", laid_internal_strconv_uint64pow10)], narrowed := true }
def FnExactFormatEndUptoSaid : Prop := fnExactFormatEndUptoRow.holds Tryd.pinned (OpenSpec.upto fnExactFormatEndSpec)

/-- 'laws.FnExactFormatNet', WHERE WHAT IT READS IS OF BULK AT MOST 1048576: true; the input reads as it did. -/
def fnExactFormatNetUptoRow : OpenClaim := { program := "ythlaldikdlljfaadoor", sum := "b4c3abf2fa721e89479a8786ebc9010ebca30acb256d5fdffc3c9bdb3cde354c", func := "loop.example/portmapper/laws.FnExactFormatNet", spec := "fnExactFormatNet", recurses := true, named := ["internal/strconv.uint64pow10", "math/bits.deBruijn32tab", "math/bits.deBruijn64tab"], apart := false, laid := [("math/bits.deBruijn32tab", laid_math_bits_deBruijn32tab), ("math/bits.deBruijn64tab", laid_math_bits_deBruijn64tab), ("internal/strconv.uint64pow10", laid_internal_strconv_uint64pow10)], narrowed := true }
def FnExactFormatNetUptoSaid : Prop := fnExactFormatNetUptoRow.holds Tryd.pinned (OpenSpec.upto fnExactFormatNetSpec)

/-- 'laws.FnEndText', WHERE WHAT IT READS IS OF BULK AT MOST 1048576: true; the input reads as it did. -/
def fnEndTextUptoRow : OpenClaim := { program := "ythlaldikdlljfaadoor", sum := "b4c3abf2fa721e89479a8786ebc9010ebca30acb256d5fdffc3c9bdb3cde354c", func := "loop.example/portmapper/laws.FnEndText", spec := "fnEndText", recurses := true, named := ["internal/strconv.uint64pow10", "math/bits.deBruijn32tab", "math/bits.deBruijn64tab"], apart := false, laid := [("math/bits.deBruijn32tab", laid_math_bits_deBruijn32tab), ("math/bits.deBruijn64tab", laid_math_bits_deBruijn64tab), ("internal/strconv.uint64pow10", laid_internal_strconv_uint64pow10)], narrowed := true }
def FnEndTextUptoSaid : Prop := fnEndTextUptoRow.holds Tryd.pinned (OpenSpec.upto fnEndTextSpec)

/-- 'laws.FnNetText', WHERE WHAT IT READS IS OF BULK AT MOST 1048576: true; the input reads as it did. -/
def fnNetTextUptoRow : OpenClaim := { program := "ythlaldikdlljfaadoor", sum := "b4c3abf2fa721e89479a8786ebc9010ebca30acb256d5fdffc3c9bdb3cde354c", func := "loop.example/portmapper/laws.FnNetText", spec := "fnNetText", recurses := true, named := ["internal/strconv.uint64pow10", "math/bits.deBruijn32tab", "math/bits.deBruijn64tab"], apart := false, laid := [("math/bits.deBruijn32tab", laid_math_bits_deBruijn32tab), ("math/bits.deBruijn64tab", laid_math_bits_deBruijn64tab), ("internal/strconv.uint64pow10", laid_internal_strconv_uint64pow10)], narrowed := true }
def FnNetTextUptoSaid : Prop := fnNetTextUptoRow.holds Tryd.pinned (OpenSpec.upto fnNetTextSpec)

/-- 'laws.FnExactFormatTable', WHERE WHAT IT READS IS OF BULK AT MOST 1048576: true; the input reads as it did. -/
def fnExactFormatTableUptoRow : OpenClaim := { program := "ythlaldikdlljfaadoor", sum := "b4c3abf2fa721e89479a8786ebc9010ebca30acb256d5fdffc3c9bdb3cde354c", func := "loop.example/portmapper/laws.FnExactFormatTable", spec := "fnExactFormatTable", inPlace := ["internal/abi.NoEscape", "internal/bytealg.MakeNoZero"], unfollowed := true, recurses := true, named := ["internal/strconv.uint64pow10", "math/bits.deBruijn32tab", "math/bits.deBruijn64tab"], apart := false, laid := [("math/bits.deBruijn32tab", laid_math_bits_deBruijn32tab), ("math/bits.deBruijn64tab", laid_math_bits_deBruijn64tab), ("internal/strconv.uint64pow10", laid_internal_strconv_uint64pow10)], narrowed := true }
def FnExactFormatTableUptoSaid : Prop := fnExactFormatTableUptoRow.holds Tryd.pinned (OpenSpec.upto fnExactFormatTableSpec)

/-- 'laws.FnTableText', WHERE WHAT IT READS IS OF BULK AT MOST 1048576: true; the input reads as it did. -/
def fnTableTextUptoRow : OpenClaim := { program := "ythlaldikdlljfaadoor", sum := "b4c3abf2fa721e89479a8786ebc9010ebca30acb256d5fdffc3c9bdb3cde354c", func := "loop.example/portmapper/laws.FnTableText", spec := "fnTableText", inPlace := ["internal/abi.NoEscape", "internal/bytealg.MakeNoZero"], unfollowed := true, recurses := true, named := ["internal/strconv.uint64pow10", "math/bits.deBruijn32tab", "math/bits.deBruijn64tab"], apart := false, laid := [("math/bits.deBruijn32tab", laid_math_bits_deBruijn32tab), ("math/bits.deBruijn64tab", laid_math_bits_deBruijn64tab), ("internal/strconv.uint64pow10", laid_internal_strconv_uint64pow10)], narrowed := true }
def FnTableTextUptoSaid : Prop := fnTableTextUptoRow.holds Tryd.pinned (OpenSpec.upto fnTableTextSpec)

/-- 'laws.FnTableTextEmpty', WHERE WHAT IT READS IS OF BULK AT MOST 1048576: true; the input reads as it did. -/
def fnTableTextEmptyUptoRow : OpenClaim := { program := "ythlaldikdlljfaadoor", sum := "b4c3abf2fa721e89479a8786ebc9010ebca30acb256d5fdffc3c9bdb3cde354c", func := "loop.example/portmapper/laws.FnTableTextEmpty", spec := "fnTableTextEmpty", inPlace := ["internal/abi.NoEscape", "internal/bytealg.MakeNoZero"], unfollowed := true, recurses := true, named := ["internal/strconv.uint64pow10", "math/bits.deBruijn32tab", "math/bits.deBruijn64tab"], apart := false, laid := [("math/bits.deBruijn32tab", laid_math_bits_deBruijn32tab), ("math/bits.deBruijn64tab", laid_math_bits_deBruijn64tab), ("internal/strconv.uint64pow10", laid_internal_strconv_uint64pow10)], narrowed := true }
def FnTableTextEmptyUptoSaid : Prop := fnTableTextEmptyUptoRow.holds Tryd.pinned (OpenSpec.upto fnTableTextEmptySpec)

/-- 'laws.FnEndRoundTrip', WHERE WHAT IT READS IS OF BULK AT MOST 1048576: true; the input reads as it did. -/
def fnEndRoundTripUptoRow : OpenClaim := { program := "ythlaldikdlljfaadoor", sum := "b4c3abf2fa721e89479a8786ebc9010ebca30acb256d5fdffc3c9bdb3cde354c", func := "loop.example/portmapper/laws.FnEndRoundTrip", spec := "fnEndRoundTrip", inPlace := ["internal/bytealg.IndexByteString", "internal/bytealg.IndexString"], recurses := true, named := ["internal/strconv.uint64pow10", "math/bits.deBruijn32tab", "math/bits.deBruijn64tab", "internal/bytealg.MaxLen", "strconv.ErrSyntax", "strconv.ErrRange"], apart := false, laid := [("math/bits.deBruijn32tab", laid_math_bits_deBruijn32tab), ("math/bits.deBruijn64tab", laid_math_bits_deBruijn64tab), ("internal/strconv.uint64pow10", laid_internal_strconv_uint64pow10), ("strconv.ErrRange", laid_strconv_ErrRange), ("strconv.ErrSyntax", laid_strconv_ErrSyntax)], narrowed := true }
def FnEndRoundTripUptoSaid : Prop := fnEndRoundTripUptoRow.holds Tryd.pinned (OpenSpec.upto fnEndRoundTripSpec)

/-- 'laws.FnNetRoundTrip', WHERE WHAT IT READS IS OF BULK AT MOST 1048576: true; the input reads as it did. -/
def fnNetRoundTripUptoRow : OpenClaim := { program := "ythlaldikdlljfaadoor", sum := "b4c3abf2fa721e89479a8786ebc9010ebca30acb256d5fdffc3c9bdb3cde354c", func := "loop.example/portmapper/laws.FnNetRoundTrip", spec := "fnNetRoundTrip", inPlace := ["internal/bytealg.IndexByteString", "internal/bytealg.IndexString"], recurses := true, named := ["internal/strconv.uint64pow10", "math/bits.deBruijn32tab", "math/bits.deBruijn64tab", "internal/bytealg.MaxLen", "strconv.ErrSyntax", "strconv.ErrRange"], apart := false, laid := [("math/bits.deBruijn32tab", laid_math_bits_deBruijn32tab), ("math/bits.deBruijn64tab", laid_math_bits_deBruijn64tab), ("internal/strconv.uint64pow10", laid_internal_strconv_uint64pow10), ("strconv.ErrRange", laid_strconv_ErrRange), ("strconv.ErrSyntax", laid_strconv_ErrSyntax)], narrowed := true }
def FnNetRoundTripUptoSaid : Prop := fnNetRoundTripUptoRow.holds Tryd.pinned (OpenSpec.upto fnNetRoundTripSpec)

/-- 'laws.FnExactParseNet', WHERE WHAT IT READS IS OF BULK AT MOST 1048576: true; the input reads as it did. -/
def fnExactParseNetUptoRow : OpenClaim := { program := "ythlaldikdlljfaadoor", sum := "b4c3abf2fa721e89479a8786ebc9010ebca30acb256d5fdffc3c9bdb3cde354c", func := "loop.example/portmapper/laws.FnExactParseNet", spec := "fnExactParseNet", inPlace := ["internal/bytealg.IndexByteString", "internal/bytealg.IndexString"], recurses := true, named := ["internal/bytealg.MaxLen", "strconv.ErrSyntax", "strconv.ErrRange", "internal/strconv.uint64pow10", "math/bits.deBruijn32tab", "math/bits.deBruijn64tab"], apart := false, laid := [("math/bits.deBruijn32tab", laid_math_bits_deBruijn32tab), ("math/bits.deBruijn64tab", laid_math_bits_deBruijn64tab), ("internal/strconv.uint64pow10", laid_internal_strconv_uint64pow10), ("strconv.ErrRange", laid_strconv_ErrRange), ("strconv.ErrSyntax", laid_strconv_ErrSyntax)], narrowed := true }
def FnExactParseNetUptoSaid : Prop := fnExactParseNetUptoRow.holds Tryd.pinned (OpenSpec.upto fnExactParseNetSpec)

/-- 'laws.FnExactParseEnd', WHERE WHAT IT READS IS OF BULK AT MOST 1048576: true; the input reads as it did. -/
def fnExactParseEndUptoRow : OpenClaim := { program := "ythlaldikdlljfaadoor", sum := "b4c3abf2fa721e89479a8786ebc9010ebca30acb256d5fdffc3c9bdb3cde354c", func := "loop.example/portmapper/laws.FnExactParseEnd", spec := "fnExactParseEnd", inPlace := ["internal/bytealg.IndexByteString", "internal/bytealg.IndexString"], recurses := true, named := ["internal/bytealg.MaxLen", "strconv.ErrSyntax", "strconv.ErrRange", "internal/strconv.uint64pow10", "math/bits.deBruijn32tab", "math/bits.deBruijn64tab"], apart := false, laid := [("math/bits.deBruijn32tab", laid_math_bits_deBruijn32tab), ("math/bits.deBruijn64tab", laid_math_bits_deBruijn64tab), ("internal/strconv.uint64pow10", laid_internal_strconv_uint64pow10), ("strconv.ErrRange", laid_strconv_ErrRange), ("strconv.ErrSyntax", laid_strconv_ErrSyntax)], narrowed := true }
def FnExactParseEndUptoSaid : Prop := fnExactParseEndUptoRow.holds Tryd.pinned (OpenSpec.upto fnExactParseEndSpec)

/-- 'laws.FnNetCanonical', WHERE WHAT IT READS IS OF BULK AT MOST 1048576: true; the input reads as it did. -/
def fnNetCanonicalUptoRow : OpenClaim := { program := "ythlaldikdlljfaadoor", sum := "b4c3abf2fa721e89479a8786ebc9010ebca30acb256d5fdffc3c9bdb3cde354c", func := "loop.example/portmapper/laws.FnNetCanonical", spec := "fnNetCanonical", inPlace := ["internal/bytealg.IndexByteString", "internal/bytealg.IndexString"], recurses := true, named := ["internal/bytealg.MaxLen", "strconv.ErrSyntax", "strconv.ErrRange", "internal/strconv.uint64pow10", "math/bits.deBruijn32tab", "math/bits.deBruijn64tab"], apart := false, laid := [("math/bits.deBruijn32tab", laid_math_bits_deBruijn32tab), ("math/bits.deBruijn64tab", laid_math_bits_deBruijn64tab), ("internal/strconv.uint64pow10", laid_internal_strconv_uint64pow10), ("strconv.ErrRange", laid_strconv_ErrRange), ("strconv.ErrSyntax", laid_strconv_ErrSyntax)], narrowed := true }
def FnNetCanonicalUptoSaid : Prop := fnNetCanonicalUptoRow.holds Tryd.pinned (OpenSpec.upto fnNetCanonicalSpec)

/-- 'laws.FnEndCanonical', WHERE WHAT IT READS IS OF BULK AT MOST 1048576: true; the input reads as it did. -/
def fnEndCanonicalUptoRow : OpenClaim := { program := "ythlaldikdlljfaadoor", sum := "b4c3abf2fa721e89479a8786ebc9010ebca30acb256d5fdffc3c9bdb3cde354c", func := "loop.example/portmapper/laws.FnEndCanonical", spec := "fnEndCanonical", inPlace := ["internal/bytealg.IndexByteString", "internal/bytealg.IndexString"], recurses := true, named := ["internal/bytealg.MaxLen", "strconv.ErrSyntax", "strconv.ErrRange", "internal/strconv.uint64pow10", "math/bits.deBruijn32tab", "math/bits.deBruijn64tab"], apart := false, laid := [("math/bits.deBruijn32tab", laid_math_bits_deBruijn32tab), ("math/bits.deBruijn64tab", laid_math_bits_deBruijn64tab), ("internal/strconv.uint64pow10", laid_internal_strconv_uint64pow10), ("strconv.ErrRange", laid_strconv_ErrRange), ("strconv.ErrSyntax", laid_strconv_ErrSyntax)], narrowed := true }
def FnEndCanonicalUptoSaid : Prop := fnEndCanonicalUptoRow.holds Tryd.pinned (OpenSpec.upto fnEndCanonicalSpec)

end Rows
end Go.Proofs.YthlaldikdlljfaaDoor
