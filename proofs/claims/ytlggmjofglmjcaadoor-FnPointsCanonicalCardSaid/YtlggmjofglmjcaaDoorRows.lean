/-
  NARROWER THAN 'FOR EVERY INPUT', by the rows' own cells (each row's printed sentence says how): FnExactEncodeRatPoint: laid · FnExactEncodePoints: laid · FnExactDecodeRatPoint: laid · FnRatPointRoundTrip: laid · FnRatPointCanonical: laid · FnPointsRoundTrip: laid · FnExactDecodePoints: laid · FnPointsCanonical: laid.
  DERIVED. THE GIVEN ROWS OF THIS SEAT. 8 by the template 'for every input the law returns true; each argument reads behind the call as it read before'; 0 by the template 'total and deterministic' (their statements: YtlggmjofglmjcaaDoorTotals.lean).
  GIVEN WITH THE SEED: the statements are not yours to turn. If you find one false, say at which input.
  Laid BY PROGRAM, IN A SANDBOX (cutbox-rows.mjs): the forced cells as the released guide's own fill.sh prints them over the translation 45ca5b451ce8cb71… (all of the seat's roots in one cut). By AI agents, Wed Nov 11 2026. No macro, syntax, notation, axiom, sorry.
-/
import Derived.Test.YtlggmjofglmjcaaDoorChecked
import GoSem.PinnedTables
import GoSem.Claim
import GoSem.ClaimJoined
import GoSem.ClaimMapViews
import Derived.JoinedTies
import Derived.KernelRfl
namespace Go.Proofs.YtlggmjofglmjcaaDoor
/- THE CELL 'sum', in the pinned program and in every row, IS THE sha256 OF THE DUMP (.gsa) THAT YtlggmjofglmjcaaDoorProg.lean LOADS. Nothing in Lean hashes anything: it is a label: what it is worth is what the hold of that sum in a sandbox is worth. -/
noncomputable def Tryd.pinned : Pinned := { name := "ytlggmjofglmjcaadoor", sum := "45ca5b451ce8cb719e333e97fa6d826aa558b1f6e4c9138eeeed3afd330ea808", checked := Tryd.checked }
namespace Rows
def none {H : Type} : Left H := { results := [], args := [] }

/- WHAT THE LISTED PACKAGE-LEVEL VARIABLES READ AS WHEN THE CALL BEGINS. Each datum BY PROGRAM (the guide's laid-datum.mjs) off the statement by which the dump's own 'gosem.cut.vars' lays the variable. In a bare row this is a premise. The card (YtlggmjofglmjcaaDoorCards.lean) ties it to the program's text. -/
def laid_math_bits_deBruijn32tab {H : Type} : DataW H := .agg [.lit (.int .u8 0), .lit (.int .u8 1), .lit (.int .u8 28), .lit (.int .u8 2), .lit (.int .u8 29), .lit (.int .u8 14), .lit (.int .u8 24), .lit (.int .u8 3), .lit (.int .u8 30), .lit (.int .u8 22), .lit (.int .u8 20), .lit (.int .u8 15), .lit (.int .u8 25), .lit (.int .u8 17), .lit (.int .u8 4), .lit (.int .u8 8), .lit (.int .u8 31), .lit (.int .u8 27), .lit (.int .u8 13), .lit (.int .u8 23), .lit (.int .u8 21), .lit (.int .u8 19), .lit (.int .u8 16), .lit (.int .u8 7), .lit (.int .u8 26), .lit (.int .u8 12), .lit (.int .u8 18), .lit (.int .u8 6), .lit (.int .u8 11), .lit (.int .u8 5), .lit (.int .u8 10), .lit (.int .u8 9)]
def laid_math_bits_deBruijn64tab {H : Type} : DataW H := .agg [.lit (.int .u8 0), .lit (.int .u8 1), .lit (.int .u8 56), .lit (.int .u8 2), .lit (.int .u8 57), .lit (.int .u8 49), .lit (.int .u8 28), .lit (.int .u8 3), .lit (.int .u8 61), .lit (.int .u8 58), .lit (.int .u8 42), .lit (.int .u8 50), .lit (.int .u8 38), .lit (.int .u8 29), .lit (.int .u8 17), .lit (.int .u8 4), .lit (.int .u8 62), .lit (.int .u8 47), .lit (.int .u8 59), .lit (.int .u8 36), .lit (.int .u8 45), .lit (.int .u8 43), .lit (.int .u8 51), .lit (.int .u8 22), .lit (.int .u8 53), .lit (.int .u8 39), .lit (.int .u8 33), .lit (.int .u8 30), .lit (.int .u8 24), .lit (.int .u8 18), .lit (.int .u8 12), .lit (.int .u8 5), .lit (.int .u8 63), .lit (.int .u8 55), .lit (.int .u8 48), .lit (.int .u8 27), .lit (.int .u8 60), .lit (.int .u8 41), .lit (.int .u8 37), .lit (.int .u8 16), .lit (.int .u8 46), .lit (.int .u8 35), .lit (.int .u8 44), .lit (.int .u8 21), .lit (.int .u8 52), .lit (.int .u8 32), .lit (.int .u8 23), .lit (.int .u8 11), .lit (.int .u8 54), .lit (.int .u8 26), .lit (.int .u8 40), .lit (.int .u8 15), .lit (.int .u8 34), .lit (.int .u8 20), .lit (.int .u8 31), .lit (.int .u8 10), .lit (.int .u8 25), .lit (.int .u8 14), .lit (.int .u8 19), .lit (.int .u8 9), .lit (.int .u8 13), .lit (.int .u8 8), .lit (.int .u8 7), .lit (.int .u8 6)]
def laid_internal_strconv_uint64pow10 {H : Type} : DataW H := .agg [.lit (.int .u64 1), .lit (.int .u64 10), .lit (.int .u64 100), .lit (.int .u64 1000), .lit (.int .u64 10000), .lit (.int .u64 100000), .lit (.int .u64 1000000), .lit (.int .u64 10000000), .lit (.int .u64 100000000), .lit (.int .u64 1000000000), .lit (.int .u64 10000000000), .lit (.int .u64 100000000000), .lit (.int .u64 1000000000000), .lit (.int .u64 10000000000000), .lit (.int .u64 100000000000000), .lit (.int .u64 1000000000000000), .lit (.int .u64 10000000000000000), .lit (.int .u64 100000000000000000), .lit (.int .u64 1000000000000000000), .lit (.int .u64 10000000000000000000)]
def laid_strconv_ErrRange {H : Type} : DataW H := .iface "*errors.errorString" (.ptr (.agg [.lit (.string [118, 97, 108, 117, 101, 32, 111, 117, 116, 32, 111, 102, 32, 114, 97, 110, 103, 101])]))
def laid_strconv_ErrSyntax {H : Type} : DataW H := .iface "*errors.errorString" (.ptr (.agg [.lit (.string [105, 110, 118, 97, 108, 105, 100, 32, 115, 121, 110, 116, 97, 120])]))
def laid_unicode_utf8_acceptRanges {H : Type} : DataW H := .agg [.agg [.lit (.int .u8 128), .lit (.int .u8 191)], .agg [.lit (.int .u8 160), .lit (.int .u8 191)], .agg [.lit (.int .u8 128), .lit (.int .u8 159)], .agg [.lit (.int .u8 144), .lit (.int .u8 191)], .agg [.lit (.int .u8 128), .lit (.int .u8 143)], .agg [.lit (.int .u8 0), .lit (.int .u8 0)], .agg [.lit (.int .u8 0), .lit (.int .u8 0)], .agg [.lit (.int .u8 0), .lit (.int .u8 0)], .agg [.lit (.int .u8 0), .lit (.int .u8 0)], .agg [.lit (.int .u8 0), .lit (.int .u8 0)], .agg [.lit (.int .u8 0), .lit (.int .u8 0)], .agg [.lit (.int .u8 0), .lit (.int .u8 0)], .agg [.lit (.int .u8 0), .lit (.int .u8 0)], .agg [.lit (.int .u8 0), .lit (.int .u8 0)], .agg [.lit (.int .u8 0), .lit (.int .u8 0)], .agg [.lit (.int .u8 0), .lit (.int .u8 0)]]
/-- One of Go's own tables, pinned by name: the form's constant. -/
def laid_unicode_utf8_first : DataW Unit := Go.Pinned.utf8First

/-- 'laws.FnExactEncodeRatPoint': WHATEVER THE INPUT: true; the input reads as it did. -/
def fnExactEncodeRatPointSpec : ChangeSpec := { name := "fnExactEncodeRatPoint", fn := fun _ => fun
  | [d] => { results := [.lit (.bool true)], args := [d] }
  | _ => none }
def fnExactEncodeRatPointRow : OpenClaim := { program := "ytlggmjofglmjcaadoor", sum := "45ca5b451ce8cb719e333e97fa6d826aa558b1f6e4c9138eeeed3afd330ea808", func := "loop.example/planargeometry/laws.FnExactEncodeRatPoint", spec := "fnExactEncodeRatPoint", recurses := true, named := ["internal/strconv.uint64pow10", "math/bits.deBruijn32tab", "math/bits.deBruijn64tab"], apart := false, laid := [("math/bits.deBruijn32tab", laid_math_bits_deBruijn32tab), ("math/bits.deBruijn64tab", laid_math_bits_deBruijn64tab), ("internal/strconv.uint64pow10", laid_internal_strconv_uint64pow10)] }
def FnExactEncodeRatPointSaid : Prop := fnExactEncodeRatPointRow.holds Tryd.pinned (OpenSpec.ofChange fnExactEncodeRatPointSpec)

/-- ITS FALSE NEIGHBOUR: 'it returns false'. Refute it at one input. -/
def fnExactEncodeRatPointWrong : ChangeSpec := { name := "fnExactEncodeRatPoint", fn := fun _ => fun
  | [d] => { results := [.lit (.bool false)], args := [d] }
  | _ => none }
def FnExactEncodeRatPointWrongFalsely : Prop := fnExactEncodeRatPointRow.holds Tryd.pinned (OpenSpec.ofChange fnExactEncodeRatPointWrong)

/-- 'laws.FnExactEncodePoints': WHATEVER THE INPUT: true; the input reads as it did. -/
def fnExactEncodePointsSpec : ChangeSpec := { name := "fnExactEncodePoints", fn := fun _ => fun
  | [d] => { results := [.lit (.bool true)], args := [d] }
  | _ => none }
def fnExactEncodePointsRow : OpenClaim := { program := "ytlggmjofglmjcaadoor", sum := "45ca5b451ce8cb719e333e97fa6d826aa558b1f6e4c9138eeeed3afd330ea808", func := "loop.example/planargeometry/laws.FnExactEncodePoints", spec := "fnExactEncodePoints", inPlace := ["internal/abi.NoEscape", "internal/bytealg.MakeNoZero"], unfollowed := true, recurses := true, named := ["internal/strconv.uint64pow10", "math/bits.deBruijn32tab", "math/bits.deBruijn64tab"], apart := false, laid := [("math/bits.deBruijn32tab", laid_math_bits_deBruijn32tab), ("math/bits.deBruijn64tab", laid_math_bits_deBruijn64tab), ("internal/strconv.uint64pow10", laid_internal_strconv_uint64pow10)] }
def FnExactEncodePointsSaid : Prop := fnExactEncodePointsRow.holds Tryd.pinned (OpenSpec.ofChange fnExactEncodePointsSpec)

/-- ITS FALSE NEIGHBOUR: 'it returns false'. Refute it at one input. -/
def fnExactEncodePointsWrong : ChangeSpec := { name := "fnExactEncodePoints", fn := fun _ => fun
  | [d] => { results := [.lit (.bool false)], args := [d] }
  | _ => none }
def FnExactEncodePointsWrongFalsely : Prop := fnExactEncodePointsRow.holds Tryd.pinned (OpenSpec.ofChange fnExactEncodePointsWrong)

/-- 'laws.FnExactDecodeRatPoint': WHATEVER THE INPUT: true; the input reads as it did. -/
def fnExactDecodeRatPointSpec : ChangeSpec := { name := "fnExactDecodeRatPoint", fn := fun _ => fun
  | [d] => { results := [.lit (.bool true)], args := [d] }
  | _ => none }
def fnExactDecodeRatPointRow : OpenClaim := { program := "ytlggmjofglmjcaadoor", sum := "45ca5b451ce8cb719e333e97fa6d826aa558b1f6e4c9138eeeed3afd330ea808", func := "loop.example/planargeometry/laws.FnExactDecodeRatPoint", spec := "fnExactDecodeRatPoint", inPlace := ["internal/bytealg.IndexByteString", "internal/bytealg.IndexString"], recurses := true, named := ["internal/bytealg.MaxLen", "strconv.ErrSyntax", "strconv.ErrRange", "internal/strconv.uint64pow10", "math/bits.deBruijn32tab", "math/bits.deBruijn64tab"], apart := false, laid := [("math/bits.deBruijn32tab", laid_math_bits_deBruijn32tab), ("math/bits.deBruijn64tab", laid_math_bits_deBruijn64tab), ("internal/strconv.uint64pow10", laid_internal_strconv_uint64pow10), ("strconv.ErrRange", laid_strconv_ErrRange), ("strconv.ErrSyntax", laid_strconv_ErrSyntax)] }
def FnExactDecodeRatPointSaid : Prop := fnExactDecodeRatPointRow.holds Tryd.pinned (OpenSpec.ofChange fnExactDecodeRatPointSpec)

/-- ITS FALSE NEIGHBOUR: 'it returns false'. Refute it at one input. -/
def fnExactDecodeRatPointWrong : ChangeSpec := { name := "fnExactDecodeRatPoint", fn := fun _ => fun
  | [d] => { results := [.lit (.bool false)], args := [d] }
  | _ => none }
def FnExactDecodeRatPointWrongFalsely : Prop := fnExactDecodeRatPointRow.holds Tryd.pinned (OpenSpec.ofChange fnExactDecodeRatPointWrong)

/-- 'laws.FnRatPointRoundTrip': WHATEVER THE INPUT: true; the input reads as it did. -/
def fnRatPointRoundTripSpec : ChangeSpec := { name := "fnRatPointRoundTrip", fn := fun _ => fun
  | [d] => { results := [.lit (.bool true)], args := [d] }
  | _ => none }
def fnRatPointRoundTripRow : OpenClaim := { program := "ytlggmjofglmjcaadoor", sum := "45ca5b451ce8cb719e333e97fa6d826aa558b1f6e4c9138eeeed3afd330ea808", func := "loop.example/planargeometry/laws.FnRatPointRoundTrip", spec := "fnRatPointRoundTrip", inPlace := ["internal/bytealg.IndexByteString", "internal/bytealg.IndexString"], recurses := true, named := ["internal/strconv.uint64pow10", "math/bits.deBruijn32tab", "math/bits.deBruijn64tab", "internal/bytealg.MaxLen", "strconv.ErrSyntax", "strconv.ErrRange"], apart := false, laid := [("math/bits.deBruijn32tab", laid_math_bits_deBruijn32tab), ("math/bits.deBruijn64tab", laid_math_bits_deBruijn64tab), ("internal/strconv.uint64pow10", laid_internal_strconv_uint64pow10), ("strconv.ErrRange", laid_strconv_ErrRange), ("strconv.ErrSyntax", laid_strconv_ErrSyntax)] }
def FnRatPointRoundTripSaid : Prop := fnRatPointRoundTripRow.holds Tryd.pinned (OpenSpec.ofChange fnRatPointRoundTripSpec)

/-- ITS FALSE NEIGHBOUR: 'it returns false'. Refute it at one input. -/
def fnRatPointRoundTripWrong : ChangeSpec := { name := "fnRatPointRoundTrip", fn := fun _ => fun
  | [d] => { results := [.lit (.bool false)], args := [d] }
  | _ => none }
def FnRatPointRoundTripWrongFalsely : Prop := fnRatPointRoundTripRow.holds Tryd.pinned (OpenSpec.ofChange fnRatPointRoundTripWrong)

/-- 'laws.FnRatPointCanonical': WHATEVER THE INPUT: true; the input reads as it did. -/
def fnRatPointCanonicalSpec : ChangeSpec := { name := "fnRatPointCanonical", fn := fun _ => fun
  | [d] => { results := [.lit (.bool true)], args := [d] }
  | _ => none }
def fnRatPointCanonicalRow : OpenClaim := { program := "ytlggmjofglmjcaadoor", sum := "45ca5b451ce8cb719e333e97fa6d826aa558b1f6e4c9138eeeed3afd330ea808", func := "loop.example/planargeometry/laws.FnRatPointCanonical", spec := "fnRatPointCanonical", inPlace := ["internal/bytealg.IndexByteString", "internal/bytealg.IndexString"], recurses := true, named := ["internal/bytealg.MaxLen", "strconv.ErrSyntax", "strconv.ErrRange", "internal/strconv.uint64pow10", "math/bits.deBruijn32tab", "math/bits.deBruijn64tab"], apart := false, laid := [("math/bits.deBruijn32tab", laid_math_bits_deBruijn32tab), ("math/bits.deBruijn64tab", laid_math_bits_deBruijn64tab), ("internal/strconv.uint64pow10", laid_internal_strconv_uint64pow10), ("strconv.ErrRange", laid_strconv_ErrRange), ("strconv.ErrSyntax", laid_strconv_ErrSyntax)] }
def FnRatPointCanonicalSaid : Prop := fnRatPointCanonicalRow.holds Tryd.pinned (OpenSpec.ofChange fnRatPointCanonicalSpec)

/-- ITS FALSE NEIGHBOUR: 'it returns false'. Refute it at one input. -/
def fnRatPointCanonicalWrong : ChangeSpec := { name := "fnRatPointCanonical", fn := fun _ => fun
  | [d] => { results := [.lit (.bool false)], args := [d] }
  | _ => none }
def FnRatPointCanonicalWrongFalsely : Prop := fnRatPointCanonicalRow.holds Tryd.pinned (OpenSpec.ofChange fnRatPointCanonicalWrong)

/-- 'laws.FnPointsRoundTrip': WHATEVER THE INPUT: true; the input reads as it did. -/
def fnPointsRoundTripSpec : ChangeSpec := { name := "fnPointsRoundTrip", fn := fun _ => fun
  | [d] => { results := [.lit (.bool true)], args := [d] }
  | _ => none }
def fnPointsRoundTripRow : OpenClaim := { program := "ytlggmjofglmjcaadoor", sum := "45ca5b451ce8cb719e333e97fa6d826aa558b1f6e4c9138eeeed3afd330ea808", func := "loop.example/planargeometry/laws.FnPointsRoundTrip", spec := "fnPointsRoundTrip", inPlace := ["internal/abi.NoEscape", "internal/bytealg.MakeNoZero", "internal/bytealg.IndexByteString", "internal/bytealg.IndexString"], unfollowed := true, recurses := true, named := ["internal/strconv.uint64pow10", "math/bits.deBruijn32tab", "math/bits.deBruijn64tab", "unicode/utf8.first", "unicode/utf8.acceptRanges", "internal/bytealg.MaxLen", "strconv.ErrSyntax", "strconv.ErrRange"], apart := false, laid := [("math/bits.deBruijn32tab", laid_math_bits_deBruijn32tab), ("math/bits.deBruijn64tab", laid_math_bits_deBruijn64tab), ("internal/strconv.uint64pow10", laid_internal_strconv_uint64pow10), ("unicode/utf8.acceptRanges", laid_unicode_utf8_acceptRanges), ("strconv.ErrRange", laid_strconv_ErrRange), ("strconv.ErrSyntax", laid_strconv_ErrSyntax), ("unicode/utf8.first", laid_unicode_utf8_first)] }
def FnPointsRoundTripSaid : Prop := fnPointsRoundTripRow.holds Tryd.pinned (OpenSpec.ofChange fnPointsRoundTripSpec)

/-- ITS FALSE NEIGHBOUR: 'it returns false'. Refute it at one input. -/
def fnPointsRoundTripWrong : ChangeSpec := { name := "fnPointsRoundTrip", fn := fun _ => fun
  | [d] => { results := [.lit (.bool false)], args := [d] }
  | _ => none }
def FnPointsRoundTripWrongFalsely : Prop := fnPointsRoundTripRow.holds Tryd.pinned (OpenSpec.ofChange fnPointsRoundTripWrong)

/-- 'laws.FnExactDecodePoints': WHATEVER THE INPUT: true; the input reads as it did. -/
def fnExactDecodePointsSpec : ChangeSpec := { name := "fnExactDecodePoints", fn := fun _ => fun
  | [d] => { results := [.lit (.bool true)], args := [d] }
  | _ => none }
def fnExactDecodePointsRow : OpenClaim := { program := "ytlggmjofglmjcaadoor", sum := "45ca5b451ce8cb719e333e97fa6d826aa558b1f6e4c9138eeeed3afd330ea808", func := "loop.example/planargeometry/laws.FnExactDecodePoints", spec := "fnExactDecodePoints", inPlace := ["internal/bytealg.IndexByteString", "internal/bytealg.IndexString", "internal/abi.NoEscape", "internal/bytealg.MakeNoZero"], unfollowed := true, recurses := true, named := ["unicode/utf8.first", "unicode/utf8.acceptRanges", "internal/bytealg.MaxLen", "strconv.ErrSyntax", "strconv.ErrRange", "internal/strconv.uint64pow10", "math/bits.deBruijn32tab", "math/bits.deBruijn64tab"], apart := false, laid := [("math/bits.deBruijn32tab", laid_math_bits_deBruijn32tab), ("math/bits.deBruijn64tab", laid_math_bits_deBruijn64tab), ("internal/strconv.uint64pow10", laid_internal_strconv_uint64pow10), ("unicode/utf8.acceptRanges", laid_unicode_utf8_acceptRanges), ("strconv.ErrRange", laid_strconv_ErrRange), ("strconv.ErrSyntax", laid_strconv_ErrSyntax), ("unicode/utf8.first", laid_unicode_utf8_first)] }
def FnExactDecodePointsSaid : Prop := fnExactDecodePointsRow.holds Tryd.pinned (OpenSpec.ofChange fnExactDecodePointsSpec)

/-- ITS FALSE NEIGHBOUR: 'it returns false'. Refute it at one input. -/
def fnExactDecodePointsWrong : ChangeSpec := { name := "fnExactDecodePoints", fn := fun _ => fun
  | [d] => { results := [.lit (.bool false)], args := [d] }
  | _ => none }
def FnExactDecodePointsWrongFalsely : Prop := fnExactDecodePointsRow.holds Tryd.pinned (OpenSpec.ofChange fnExactDecodePointsWrong)

/-- 'laws.FnPointsCanonical': WHATEVER THE INPUT: true; the input reads as it did. -/
def fnPointsCanonicalSpec : ChangeSpec := { name := "fnPointsCanonical", fn := fun _ => fun
  | [d] => { results := [.lit (.bool true)], args := [d] }
  | _ => none }
def fnPointsCanonicalRow : OpenClaim := { program := "ytlggmjofglmjcaadoor", sum := "45ca5b451ce8cb719e333e97fa6d826aa558b1f6e4c9138eeeed3afd330ea808", func := "loop.example/planargeometry/laws.FnPointsCanonical", spec := "fnPointsCanonical", inPlace := ["internal/bytealg.IndexByteString", "internal/bytealg.IndexString", "internal/abi.NoEscape", "internal/bytealg.MakeNoZero"], unfollowed := true, recurses := true, named := ["unicode/utf8.first", "unicode/utf8.acceptRanges", "internal/bytealg.MaxLen", "strconv.ErrSyntax", "strconv.ErrRange", "internal/strconv.uint64pow10", "math/bits.deBruijn32tab", "math/bits.deBruijn64tab"], apart := false, laid := [("math/bits.deBruijn32tab", laid_math_bits_deBruijn32tab), ("math/bits.deBruijn64tab", laid_math_bits_deBruijn64tab), ("internal/strconv.uint64pow10", laid_internal_strconv_uint64pow10), ("unicode/utf8.acceptRanges", laid_unicode_utf8_acceptRanges), ("strconv.ErrRange", laid_strconv_ErrRange), ("strconv.ErrSyntax", laid_strconv_ErrSyntax), ("unicode/utf8.first", laid_unicode_utf8_first)] }
def FnPointsCanonicalSaid : Prop := fnPointsCanonicalRow.holds Tryd.pinned (OpenSpec.ofChange fnPointsCanonicalSpec)

/-- ITS FALSE NEIGHBOUR: 'it returns false'. Refute it at one input. -/
def fnPointsCanonicalWrong : ChangeSpec := { name := "fnPointsCanonical", fn := fun _ => fun
  | [d] => { results := [.lit (.bool false)], args := [d] }
  | _ => none }
def FnPointsCanonicalWrongFalsely : Prop := fnPointsCanonicalRow.holds Tryd.pinned (OpenSpec.ofChange fnPointsCanonicalWrong)

/- THE SECOND FORM. 'bulk': how many values and letters a reading holds, each counted each time it is reached (what is shared counts as often as it is met; a slice's spare places count too). A statement '..UptoSaid' is the law's where the arguments, and the package variables that the reading takes, are together of bulk at most 1048576: NARROWER than '..Said'. Prove '..Said' where nothing that the law and all that it calls make is longer than what came in: it says more and counts as full. Else prove '..UptoSaid'. A law counts once. -/
mutual
def uptoBulk {H : Type} : DataW H → Nat
  | .lit (.string bytes) => bytes.length + 1
  | .lit _ => 1
  | .nil => 1
  | .ptr d => uptoBulk d + 1
  | .slice elems spare => uptoBulkAll elems + uptoBulkAll spare + 1
  | .agg parts => uptoBulkAll parts + 1
  | .iface _ d => uptoBulk d + 1
  | .map entries => uptoBulkEntries entries + 1
  | .held _ => 1
def uptoBulkAll {H : Type} : List (DataW H) → Nat
  | [] => 0
  | d :: r => uptoBulk d + uptoBulkAll r
def uptoBulkEntries {H : Type} : List (Lit × DataW H) → Nat
  | [] => 0
  | x :: r => uptoBulkEntry x + uptoBulkEntries r
def uptoBulkEntry {H : Type} : Lit × DataW H → Nat
  | (.string bytes, d) => bytes.length + uptoBulk d + 1
  | (_, d) => uptoBulk d + 1
 end
def uptoSmall : (H : Type) → List (DataW H) → Bool := fun _ ds => decide (uptoBulkAll ds ≤ 1048576)
def OpenSpec.upto (s : _root_.Go.ChangeSpec) : _root_.Go.OpenSpec := { _root_.Go.OpenSpec.ofChange s with cond := some uptoSmall }

/-- 'laws.FnExactEncodeRatPoint', WHERE WHAT IT READS IS OF BULK AT MOST 1048576: true; the input reads as it did. -/
def fnExactEncodeRatPointUptoRow : OpenClaim := { program := "ytlggmjofglmjcaadoor", sum := "45ca5b451ce8cb719e333e97fa6d826aa558b1f6e4c9138eeeed3afd330ea808", func := "loop.example/planargeometry/laws.FnExactEncodeRatPoint", spec := "fnExactEncodeRatPoint", recurses := true, named := ["internal/strconv.uint64pow10", "math/bits.deBruijn32tab", "math/bits.deBruijn64tab"], apart := false, laid := [("math/bits.deBruijn32tab", laid_math_bits_deBruijn32tab), ("math/bits.deBruijn64tab", laid_math_bits_deBruijn64tab), ("internal/strconv.uint64pow10", laid_internal_strconv_uint64pow10)], narrowed := true }
def FnExactEncodeRatPointUptoSaid : Prop := fnExactEncodeRatPointUptoRow.holds Tryd.pinned (OpenSpec.upto fnExactEncodeRatPointSpec)

/-- 'laws.FnExactEncodePoints', WHERE WHAT IT READS IS OF BULK AT MOST 1048576: true; the input reads as it did. -/
def fnExactEncodePointsUptoRow : OpenClaim := { program := "ytlggmjofglmjcaadoor", sum := "45ca5b451ce8cb719e333e97fa6d826aa558b1f6e4c9138eeeed3afd330ea808", func := "loop.example/planargeometry/laws.FnExactEncodePoints", spec := "fnExactEncodePoints", inPlace := ["internal/abi.NoEscape", "internal/bytealg.MakeNoZero"], unfollowed := true, recurses := true, named := ["internal/strconv.uint64pow10", "math/bits.deBruijn32tab", "math/bits.deBruijn64tab"], apart := false, laid := [("math/bits.deBruijn32tab", laid_math_bits_deBruijn32tab), ("math/bits.deBruijn64tab", laid_math_bits_deBruijn64tab), ("internal/strconv.uint64pow10", laid_internal_strconv_uint64pow10)], narrowed := true }
def FnExactEncodePointsUptoSaid : Prop := fnExactEncodePointsUptoRow.holds Tryd.pinned (OpenSpec.upto fnExactEncodePointsSpec)

/-- 'laws.FnExactDecodeRatPoint', WHERE WHAT IT READS IS OF BULK AT MOST 1048576: true; the input reads as it did. -/
def fnExactDecodeRatPointUptoRow : OpenClaim := { program := "ytlggmjofglmjcaadoor", sum := "45ca5b451ce8cb719e333e97fa6d826aa558b1f6e4c9138eeeed3afd330ea808", func := "loop.example/planargeometry/laws.FnExactDecodeRatPoint", spec := "fnExactDecodeRatPoint", inPlace := ["internal/bytealg.IndexByteString", "internal/bytealg.IndexString"], recurses := true, named := ["internal/bytealg.MaxLen", "strconv.ErrSyntax", "strconv.ErrRange", "internal/strconv.uint64pow10", "math/bits.deBruijn32tab", "math/bits.deBruijn64tab"], apart := false, laid := [("math/bits.deBruijn32tab", laid_math_bits_deBruijn32tab), ("math/bits.deBruijn64tab", laid_math_bits_deBruijn64tab), ("internal/strconv.uint64pow10", laid_internal_strconv_uint64pow10), ("strconv.ErrRange", laid_strconv_ErrRange), ("strconv.ErrSyntax", laid_strconv_ErrSyntax)], narrowed := true }
def FnExactDecodeRatPointUptoSaid : Prop := fnExactDecodeRatPointUptoRow.holds Tryd.pinned (OpenSpec.upto fnExactDecodeRatPointSpec)

/-- 'laws.FnRatPointRoundTrip', WHERE WHAT IT READS IS OF BULK AT MOST 1048576: true; the input reads as it did. -/
def fnRatPointRoundTripUptoRow : OpenClaim := { program := "ytlggmjofglmjcaadoor", sum := "45ca5b451ce8cb719e333e97fa6d826aa558b1f6e4c9138eeeed3afd330ea808", func := "loop.example/planargeometry/laws.FnRatPointRoundTrip", spec := "fnRatPointRoundTrip", inPlace := ["internal/bytealg.IndexByteString", "internal/bytealg.IndexString"], recurses := true, named := ["internal/strconv.uint64pow10", "math/bits.deBruijn32tab", "math/bits.deBruijn64tab", "internal/bytealg.MaxLen", "strconv.ErrSyntax", "strconv.ErrRange"], apart := false, laid := [("math/bits.deBruijn32tab", laid_math_bits_deBruijn32tab), ("math/bits.deBruijn64tab", laid_math_bits_deBruijn64tab), ("internal/strconv.uint64pow10", laid_internal_strconv_uint64pow10), ("strconv.ErrRange", laid_strconv_ErrRange), ("strconv.ErrSyntax", laid_strconv_ErrSyntax)], narrowed := true }
def FnRatPointRoundTripUptoSaid : Prop := fnRatPointRoundTripUptoRow.holds Tryd.pinned (OpenSpec.upto fnRatPointRoundTripSpec)

/-- 'laws.FnRatPointCanonical', WHERE WHAT IT READS IS OF BULK AT MOST 1048576: true; the input reads as it did. -/
def fnRatPointCanonicalUptoRow : OpenClaim := { program := "ytlggmjofglmjcaadoor", sum := "45ca5b451ce8cb719e333e97fa6d826aa558b1f6e4c9138eeeed3afd330ea808", func := "loop.example/planargeometry/laws.FnRatPointCanonical", spec := "fnRatPointCanonical", inPlace := ["internal/bytealg.IndexByteString", "internal/bytealg.IndexString"], recurses := true, named := ["internal/bytealg.MaxLen", "strconv.ErrSyntax", "strconv.ErrRange", "internal/strconv.uint64pow10", "math/bits.deBruijn32tab", "math/bits.deBruijn64tab"], apart := false, laid := [("math/bits.deBruijn32tab", laid_math_bits_deBruijn32tab), ("math/bits.deBruijn64tab", laid_math_bits_deBruijn64tab), ("internal/strconv.uint64pow10", laid_internal_strconv_uint64pow10), ("strconv.ErrRange", laid_strconv_ErrRange), ("strconv.ErrSyntax", laid_strconv_ErrSyntax)], narrowed := true }
def FnRatPointCanonicalUptoSaid : Prop := fnRatPointCanonicalUptoRow.holds Tryd.pinned (OpenSpec.upto fnRatPointCanonicalSpec)

/-- 'laws.FnPointsRoundTrip', WHERE WHAT IT READS IS OF BULK AT MOST 1048576: true; the input reads as it did. -/
def fnPointsRoundTripUptoRow : OpenClaim := { program := "ytlggmjofglmjcaadoor", sum := "45ca5b451ce8cb719e333e97fa6d826aa558b1f6e4c9138eeeed3afd330ea808", func := "loop.example/planargeometry/laws.FnPointsRoundTrip", spec := "fnPointsRoundTrip", inPlace := ["internal/abi.NoEscape", "internal/bytealg.MakeNoZero", "internal/bytealg.IndexByteString", "internal/bytealg.IndexString"], unfollowed := true, recurses := true, named := ["internal/strconv.uint64pow10", "math/bits.deBruijn32tab", "math/bits.deBruijn64tab", "unicode/utf8.first", "unicode/utf8.acceptRanges", "internal/bytealg.MaxLen", "strconv.ErrSyntax", "strconv.ErrRange"], apart := false, laid := [("math/bits.deBruijn32tab", laid_math_bits_deBruijn32tab), ("math/bits.deBruijn64tab", laid_math_bits_deBruijn64tab), ("internal/strconv.uint64pow10", laid_internal_strconv_uint64pow10), ("unicode/utf8.acceptRanges", laid_unicode_utf8_acceptRanges), ("strconv.ErrRange", laid_strconv_ErrRange), ("strconv.ErrSyntax", laid_strconv_ErrSyntax), ("unicode/utf8.first", laid_unicode_utf8_first)], narrowed := true }
def FnPointsRoundTripUptoSaid : Prop := fnPointsRoundTripUptoRow.holds Tryd.pinned (OpenSpec.upto fnPointsRoundTripSpec)

/-- 'laws.FnExactDecodePoints', WHERE WHAT IT READS IS OF BULK AT MOST 1048576: true; the input reads as it did. -/
def fnExactDecodePointsUptoRow : OpenClaim := { program := "ytlggmjofglmjcaadoor", sum := "45ca5b451ce8cb719e333e97fa6d826aa558b1f6e4c9138eeeed3afd330ea808", func := "loop.example/planargeometry/laws.FnExactDecodePoints", spec := "fnExactDecodePoints", inPlace := ["internal/bytealg.IndexByteString", "internal/bytealg.IndexString", "internal/abi.NoEscape", "internal/bytealg.MakeNoZero"], unfollowed := true, recurses := true, named := ["unicode/utf8.first", "unicode/utf8.acceptRanges", "internal/bytealg.MaxLen", "strconv.ErrSyntax", "strconv.ErrRange", "internal/strconv.uint64pow10", "math/bits.deBruijn32tab", "math/bits.deBruijn64tab"], apart := false, laid := [("math/bits.deBruijn32tab", laid_math_bits_deBruijn32tab), ("math/bits.deBruijn64tab", laid_math_bits_deBruijn64tab), ("internal/strconv.uint64pow10", laid_internal_strconv_uint64pow10), ("unicode/utf8.acceptRanges", laid_unicode_utf8_acceptRanges), ("strconv.ErrRange", laid_strconv_ErrRange), ("strconv.ErrSyntax", laid_strconv_ErrSyntax), ("unicode/utf8.first", laid_unicode_utf8_first)], narrowed := true }
def FnExactDecodePointsUptoSaid : Prop := fnExactDecodePointsUptoRow.holds Tryd.pinned (OpenSpec.upto fnExactDecodePointsSpec)

/-- 'laws.FnPointsCanonical', WHERE WHAT IT READS IS OF BULK AT MOST 1048576: true; the input reads as it did. -/
def fnPointsCanonicalUptoRow : OpenClaim := { program := "ytlggmjofglmjcaadoor", sum := "45ca5b451ce8cb719e333e97fa6d826aa558b1f6e4c9138eeeed3afd330ea808", func := "loop.example/planargeometry/laws.FnPointsCanonical", spec := "fnPointsCanonical", inPlace := ["internal/bytealg.IndexByteString", "internal/bytealg.IndexString", "internal/abi.NoEscape", "internal/bytealg.MakeNoZero"], unfollowed := true, recurses := true, named := ["unicode/utf8.first", "unicode/utf8.acceptRanges", "internal/bytealg.MaxLen", "strconv.ErrSyntax", "strconv.ErrRange", "internal/strconv.uint64pow10", "math/bits.deBruijn32tab", "math/bits.deBruijn64tab"], apart := false, laid := [("math/bits.deBruijn32tab", laid_math_bits_deBruijn32tab), ("math/bits.deBruijn64tab", laid_math_bits_deBruijn64tab), ("internal/strconv.uint64pow10", laid_internal_strconv_uint64pow10), ("unicode/utf8.acceptRanges", laid_unicode_utf8_acceptRanges), ("strconv.ErrRange", laid_strconv_ErrRange), ("strconv.ErrSyntax", laid_strconv_ErrSyntax), ("unicode/utf8.first", laid_unicode_utf8_first)], narrowed := true }
def FnPointsCanonicalUptoSaid : Prop := fnPointsCanonicalUptoRow.holds Tryd.pinned (OpenSpec.upto fnPointsCanonicalSpec)

end Rows
end Go.Proofs.YtlggmjofglmjcaaDoor
