/-
  NARROWER THAN 'FOR EVERY INPUT', by the rows' own cells (each row's printed sentence says how): ShiftKnowns: laid · ShiftRosters: laid · ShiftWheres: laid · ShiftMades: laid · ShiftPrints: laid · ShiftReads: laid · ShiftSpoilt: laid · ShiftOrders: laid · ShiftStaffs: laid · ShiftRivals: laid · ShiftBreathes: laid · ShiftAny: laid · ShiftMore: laid · ShiftTrue: laid · ShiftAir: laid · ShiftLost: laid · ShiftWas: laid · ShiftRuns: laid.
  DERIVED. THE GIVEN ROWS OF THIS SEAT. 18 by the template 'for every input the law returns true; each argument reads behind the call as it read before'; 0 by the template 'total and deterministic' (their statements: YtkpbdjpekjdhcaaGreatDoorTotals.lean).
  GIVEN WITH THE SEED: the statements are not yours to turn. If you find one false, say at which input.
  Laid BY PROGRAM, IN A SANDBOX (cutbox-rows.mjs): the forced cells as the released guide's own fill.sh prints them over the translation 1ff0200560f1adf8… (all of the seat's roots in one cut). By AI agents, Wed Nov 11 2026. No macro, syntax, notation, axiom, sorry.
-/
import Derived.Test.YtkpbdjpekjdhcaaGreatDoorChecked
import GoSem.PinnedTables
import GoSem.Claim
import GoSem.ClaimJoined
import GoSem.ClaimMapViews
import Derived.JoinedTies
import Derived.KernelRfl
namespace Go.Proofs.YtkpbdjpekjdhcaaGreatDoor
/- THE CELL 'sum', in the pinned program and in every row, IS THE sha256 OF THE DUMP (.gsa) THAT YtkpbdjpekjdhcaaGreatDoorProg.lean LOADS. Nothing in Lean hashes anything: it is a label: what it is worth is what the hold of that sum in a sandbox is worth. -/
noncomputable def Tryz.pinned : Pinned := { name := "ytkpbdjpekjdhcaagreatdoor", sum := "1ff0200560f1adf86f7d52e712f3e8d83186aaf2b5e0a867594d9ee659875a54", checked := Tryz.checked }
namespace Rows
def none {H : Type} : Left H := { results := [], args := [] }

/- WHAT THE LISTED PACKAGE-LEVEL VARIABLES READ AS WHEN THE CALL BEGINS. Each datum BY PROGRAM (the guide's laid-datum.mjs) off the statement by which the dump's own 'gosem.cut.vars' lays the variable. In a bare row this is a premise. The card (YtkpbdjpekjdhcaaGreatDoorCards.lean) ties it to the program's text. -/
def laid_math_bits_deBruijn32tab {H : Type} : DataW H := .agg [.lit (.int .u8 0), .lit (.int .u8 1), .lit (.int .u8 28), .lit (.int .u8 2), .lit (.int .u8 29), .lit (.int .u8 14), .lit (.int .u8 24), .lit (.int .u8 3), .lit (.int .u8 30), .lit (.int .u8 22), .lit (.int .u8 20), .lit (.int .u8 15), .lit (.int .u8 25), .lit (.int .u8 17), .lit (.int .u8 4), .lit (.int .u8 8), .lit (.int .u8 31), .lit (.int .u8 27), .lit (.int .u8 13), .lit (.int .u8 23), .lit (.int .u8 21), .lit (.int .u8 19), .lit (.int .u8 16), .lit (.int .u8 7), .lit (.int .u8 26), .lit (.int .u8 12), .lit (.int .u8 18), .lit (.int .u8 6), .lit (.int .u8 11), .lit (.int .u8 5), .lit (.int .u8 10), .lit (.int .u8 9)]
def laid_math_bits_deBruijn64tab {H : Type} : DataW H := .agg [.lit (.int .u8 0), .lit (.int .u8 1), .lit (.int .u8 56), .lit (.int .u8 2), .lit (.int .u8 57), .lit (.int .u8 49), .lit (.int .u8 28), .lit (.int .u8 3), .lit (.int .u8 61), .lit (.int .u8 58), .lit (.int .u8 42), .lit (.int .u8 50), .lit (.int .u8 38), .lit (.int .u8 29), .lit (.int .u8 17), .lit (.int .u8 4), .lit (.int .u8 62), .lit (.int .u8 47), .lit (.int .u8 59), .lit (.int .u8 36), .lit (.int .u8 45), .lit (.int .u8 43), .lit (.int .u8 51), .lit (.int .u8 22), .lit (.int .u8 53), .lit (.int .u8 39), .lit (.int .u8 33), .lit (.int .u8 30), .lit (.int .u8 24), .lit (.int .u8 18), .lit (.int .u8 12), .lit (.int .u8 5), .lit (.int .u8 63), .lit (.int .u8 55), .lit (.int .u8 48), .lit (.int .u8 27), .lit (.int .u8 60), .lit (.int .u8 41), .lit (.int .u8 37), .lit (.int .u8 16), .lit (.int .u8 46), .lit (.int .u8 35), .lit (.int .u8 44), .lit (.int .u8 21), .lit (.int .u8 52), .lit (.int .u8 32), .lit (.int .u8 23), .lit (.int .u8 11), .lit (.int .u8 54), .lit (.int .u8 26), .lit (.int .u8 40), .lit (.int .u8 15), .lit (.int .u8 34), .lit (.int .u8 20), .lit (.int .u8 31), .lit (.int .u8 10), .lit (.int .u8 25), .lit (.int .u8 14), .lit (.int .u8 19), .lit (.int .u8 9), .lit (.int .u8 13), .lit (.int .u8 8), .lit (.int .u8 7), .lit (.int .u8 6)]
def laid_internal_strconv_uint64pow10 {H : Type} : DataW H := .agg [.lit (.int .u64 1), .lit (.int .u64 10), .lit (.int .u64 100), .lit (.int .u64 1000), .lit (.int .u64 10000), .lit (.int .u64 100000), .lit (.int .u64 1000000), .lit (.int .u64 10000000), .lit (.int .u64 100000000), .lit (.int .u64 1000000000), .lit (.int .u64 10000000000), .lit (.int .u64 100000000000), .lit (.int .u64 1000000000000), .lit (.int .u64 10000000000000), .lit (.int .u64 100000000000000), .lit (.int .u64 1000000000000000), .lit (.int .u64 10000000000000000), .lit (.int .u64 100000000000000000), .lit (.int .u64 1000000000000000000), .lit (.int .u64 10000000000000000000)]
def laid_unicode_utf8_acceptRanges {H : Type} : DataW H := .agg [.agg [.lit (.int .u8 128), .lit (.int .u8 191)], .agg [.lit (.int .u8 160), .lit (.int .u8 191)], .agg [.lit (.int .u8 128), .lit (.int .u8 159)], .agg [.lit (.int .u8 144), .lit (.int .u8 191)], .agg [.lit (.int .u8 128), .lit (.int .u8 143)], .agg [.lit (.int .u8 0), .lit (.int .u8 0)], .agg [.lit (.int .u8 0), .lit (.int .u8 0)], .agg [.lit (.int .u8 0), .lit (.int .u8 0)], .agg [.lit (.int .u8 0), .lit (.int .u8 0)], .agg [.lit (.int .u8 0), .lit (.int .u8 0)], .agg [.lit (.int .u8 0), .lit (.int .u8 0)], .agg [.lit (.int .u8 0), .lit (.int .u8 0)], .agg [.lit (.int .u8 0), .lit (.int .u8 0)], .agg [.lit (.int .u8 0), .lit (.int .u8 0)], .agg [.lit (.int .u8 0), .lit (.int .u8 0)], .agg [.lit (.int .u8 0), .lit (.int .u8 0)]]
/-- One of Go's own tables, pinned by name: the form's constant. -/
def laid_unicode_utf8_first : DataW Unit := Go.Pinned.utf8First

/-- 'nacrelaw05.ShiftKnowns': WHATEVER THE INPUT: true; the input reads as it did. -/
def shiftKnownsSpec : ChangeSpec := { name := "shiftKnowns", fn := fun _ => fun
  | [d] => { results := [.lit (.bool true)], args := [d] }
  | _ => none }
def shiftKnownsRow : OpenClaim := { program := "ytkpbdjpekjdhcaagreatdoor", sum := "1ff0200560f1adf86f7d52e712f3e8d83186aaf2b5e0a867594d9ee659875a54", func := "nacre/nacrelaw05.ShiftKnowns", spec := "shiftKnowns", inPlace := ["internal/bytealg.CountString", "internal/bytealg.IndexByteString", "internal/bytealg.IndexString", "internal/abi.NoEscape", "internal/bytealg.MakeNoZero"], unfollowed := true, recurses := true, named := ["unicode/utf8.first", "unicode/utf8.acceptRanges", "internal/bytealg.MaxLen", "internal/strconv.uint64pow10", "math/bits.deBruijn32tab", "math/bits.deBruijn64tab"], plainKeys := false, apart := false, laid := [("math/bits.deBruijn32tab", laid_math_bits_deBruijn32tab), ("math/bits.deBruijn64tab", laid_math_bits_deBruijn64tab), ("internal/strconv.uint64pow10", laid_internal_strconv_uint64pow10), ("unicode/utf8.acceptRanges", laid_unicode_utf8_acceptRanges), ("unicode/utf8.first", laid_unicode_utf8_first)] }
def ShiftKnownsSaid : Prop := shiftKnownsRow.holds Tryz.pinned (OpenSpec.ofChange shiftKnownsSpec)

/-- ITS FALSE NEIGHBOUR: 'it returns false'. Refute it at one input. -/
def shiftKnownsWrong : ChangeSpec := { name := "shiftKnowns", fn := fun _ => fun
  | [d] => { results := [.lit (.bool false)], args := [d] }
  | _ => none }
def ShiftKnownsWrongFalsely : Prop := shiftKnownsRow.holds Tryz.pinned (OpenSpec.ofChange shiftKnownsWrong)

/-- 'nacrelaw05.ShiftRosters': WHATEVER THE INPUT: true; the input reads as it did. -/
def shiftRostersSpec : ChangeSpec := { name := "shiftRosters", fn := fun _ => fun
  | [d] => { results := [.lit (.bool true)], args := [d] }
  | _ => none }
def shiftRostersRow : OpenClaim := { program := "ytkpbdjpekjdhcaagreatdoor", sum := "1ff0200560f1adf86f7d52e712f3e8d83186aaf2b5e0a867594d9ee659875a54", func := "nacre/nacrelaw05.ShiftRosters", spec := "shiftRosters", inPlace := ["internal/bytealg.CountString", "internal/bytealg.IndexByteString", "internal/bytealg.IndexString", "internal/abi.NoEscape", "internal/bytealg.MakeNoZero"], unfollowed := true, recurses := true, named := ["unicode/utf8.first", "unicode/utf8.acceptRanges", "internal/bytealg.MaxLen", "internal/strconv.uint64pow10", "math/bits.deBruijn32tab", "math/bits.deBruijn64tab"], plainKeys := false, apart := false, laid := [("math/bits.deBruijn32tab", laid_math_bits_deBruijn32tab), ("math/bits.deBruijn64tab", laid_math_bits_deBruijn64tab), ("internal/strconv.uint64pow10", laid_internal_strconv_uint64pow10), ("unicode/utf8.acceptRanges", laid_unicode_utf8_acceptRanges), ("unicode/utf8.first", laid_unicode_utf8_first)] }
def ShiftRostersSaid : Prop := shiftRostersRow.holds Tryz.pinned (OpenSpec.ofChange shiftRostersSpec)

/-- ITS FALSE NEIGHBOUR: 'it returns false'. Refute it at one input. -/
def shiftRostersWrong : ChangeSpec := { name := "shiftRosters", fn := fun _ => fun
  | [d] => { results := [.lit (.bool false)], args := [d] }
  | _ => none }
def ShiftRostersWrongFalsely : Prop := shiftRostersRow.holds Tryz.pinned (OpenSpec.ofChange shiftRostersWrong)

/-- 'nacrelaw05.ShiftWheres': WHATEVER THE INPUT: true; the input reads as it did. -/
def shiftWheresSpec : ChangeSpec := { name := "shiftWheres", fn := fun _ => fun
  | [d1, d2, d3] => { results := [.lit (.bool true)], args := [d1, d2, d3] }
  | _ => none }
def shiftWheresRow : OpenClaim := { program := "ytkpbdjpekjdhcaagreatdoor", sum := "1ff0200560f1adf86f7d52e712f3e8d83186aaf2b5e0a867594d9ee659875a54", func := "nacre/nacrelaw05.ShiftWheres", spec := "shiftWheres", inPlace := ["internal/bytealg.CountString", "internal/bytealg.IndexByteString", "internal/bytealg.IndexString", "internal/abi.NoEscape", "internal/bytealg.MakeNoZero"], unfollowed := true, recurses := true, named := ["unicode/utf8.first", "unicode/utf8.acceptRanges", "internal/bytealg.MaxLen", "internal/strconv.uint64pow10", "math/bits.deBruijn32tab", "math/bits.deBruijn64tab"], plainKeys := false, apart := false, laid := [("math/bits.deBruijn32tab", laid_math_bits_deBruijn32tab), ("math/bits.deBruijn64tab", laid_math_bits_deBruijn64tab), ("internal/strconv.uint64pow10", laid_internal_strconv_uint64pow10), ("unicode/utf8.acceptRanges", laid_unicode_utf8_acceptRanges), ("unicode/utf8.first", laid_unicode_utf8_first)] }
def ShiftWheresSaid : Prop := shiftWheresRow.holds Tryz.pinned (OpenSpec.ofChange shiftWheresSpec)

/-- ITS FALSE NEIGHBOUR: 'it returns false'. Refute it at one input. -/
def shiftWheresWrong : ChangeSpec := { name := "shiftWheres", fn := fun _ => fun
  | [d1, d2, d3] => { results := [.lit (.bool false)], args := [d1, d2, d3] }
  | _ => none }
def ShiftWheresWrongFalsely : Prop := shiftWheresRow.holds Tryz.pinned (OpenSpec.ofChange shiftWheresWrong)

/-- 'nacrelaw05.ShiftMades': WHATEVER THE INPUT: true; the input reads as it did. -/
def shiftMadesSpec : ChangeSpec := { name := "shiftMades", fn := fun _ => fun
  | [d1, d2] => { results := [.lit (.bool true)], args := [d1, d2] }
  | _ => none }
def shiftMadesRow : OpenClaim := { program := "ytkpbdjpekjdhcaagreatdoor", sum := "1ff0200560f1adf86f7d52e712f3e8d83186aaf2b5e0a867594d9ee659875a54", func := "nacre/nacrelaw05.ShiftMades", spec := "shiftMades", inPlace := ["internal/bytealg.CountString", "internal/bytealg.IndexByteString", "internal/bytealg.IndexString", "internal/abi.NoEscape", "internal/bytealg.MakeNoZero"], unfollowed := true, recurses := true, named := ["unicode/utf8.first", "unicode/utf8.acceptRanges", "internal/bytealg.MaxLen", "internal/strconv.uint64pow10", "math/bits.deBruijn32tab", "math/bits.deBruijn64tab"], plainKeys := false, apart := false, laid := [("math/bits.deBruijn32tab", laid_math_bits_deBruijn32tab), ("math/bits.deBruijn64tab", laid_math_bits_deBruijn64tab), ("internal/strconv.uint64pow10", laid_internal_strconv_uint64pow10), ("unicode/utf8.acceptRanges", laid_unicode_utf8_acceptRanges), ("unicode/utf8.first", laid_unicode_utf8_first)] }
def ShiftMadesSaid : Prop := shiftMadesRow.holds Tryz.pinned (OpenSpec.ofChange shiftMadesSpec)

/-- ITS FALSE NEIGHBOUR: 'it returns false'. Refute it at one input. -/
def shiftMadesWrong : ChangeSpec := { name := "shiftMades", fn := fun _ => fun
  | [d1, d2] => { results := [.lit (.bool false)], args := [d1, d2] }
  | _ => none }
def ShiftMadesWrongFalsely : Prop := shiftMadesRow.holds Tryz.pinned (OpenSpec.ofChange shiftMadesWrong)

/-- 'nacrelaw05.ShiftPrints': WHATEVER THE INPUT: true; the input reads as it did. -/
def shiftPrintsSpec : ChangeSpec := { name := "shiftPrints", fn := fun _ => fun
  | [d] => { results := [.lit (.bool true)], args := [d] }
  | _ => none }
def shiftPrintsRow : OpenClaim := { program := "ytkpbdjpekjdhcaagreatdoor", sum := "1ff0200560f1adf86f7d52e712f3e8d83186aaf2b5e0a867594d9ee659875a54", func := "nacre/nacrelaw05.ShiftPrints", spec := "shiftPrints", inPlace := ["internal/bytealg.CountString", "internal/bytealg.IndexByteString", "internal/bytealg.IndexString", "internal/abi.NoEscape", "internal/bytealg.MakeNoZero"], unfollowed := true, recurses := true, named := ["unicode/utf8.first", "unicode/utf8.acceptRanges", "internal/bytealg.MaxLen", "internal/strconv.uint64pow10", "math/bits.deBruijn32tab", "math/bits.deBruijn64tab"], plainKeys := false, apart := false, laid := [("math/bits.deBruijn32tab", laid_math_bits_deBruijn32tab), ("math/bits.deBruijn64tab", laid_math_bits_deBruijn64tab), ("internal/strconv.uint64pow10", laid_internal_strconv_uint64pow10), ("unicode/utf8.acceptRanges", laid_unicode_utf8_acceptRanges), ("unicode/utf8.first", laid_unicode_utf8_first)] }
def ShiftPrintsSaid : Prop := shiftPrintsRow.holds Tryz.pinned (OpenSpec.ofChange shiftPrintsSpec)

/-- ITS FALSE NEIGHBOUR: 'it returns false'. Refute it at one input. -/
def shiftPrintsWrong : ChangeSpec := { name := "shiftPrints", fn := fun _ => fun
  | [d] => { results := [.lit (.bool false)], args := [d] }
  | _ => none }
def ShiftPrintsWrongFalsely : Prop := shiftPrintsRow.holds Tryz.pinned (OpenSpec.ofChange shiftPrintsWrong)

/-- 'nacrelaw05.ShiftReads': WHATEVER THE INPUT: true; the input reads as it did. -/
def shiftReadsSpec : ChangeSpec := { name := "shiftReads", fn := fun _ => fun
  | [d] => { results := [.lit (.bool true)], args := [d] }
  | _ => none }
def shiftReadsRow : OpenClaim := { program := "ytkpbdjpekjdhcaagreatdoor", sum := "1ff0200560f1adf86f7d52e712f3e8d83186aaf2b5e0a867594d9ee659875a54", func := "nacre/nacrelaw05.ShiftReads", spec := "shiftReads", inPlace := ["internal/bytealg.CountString", "internal/bytealg.IndexByteString", "internal/bytealg.IndexString", "internal/abi.NoEscape", "internal/bytealg.MakeNoZero"], unfollowed := true, recurses := true, named := ["unicode/utf8.first", "unicode/utf8.acceptRanges", "internal/bytealg.MaxLen", "internal/strconv.uint64pow10", "math/bits.deBruijn32tab", "math/bits.deBruijn64tab"], plainKeys := false, apart := false, laid := [("math/bits.deBruijn32tab", laid_math_bits_deBruijn32tab), ("math/bits.deBruijn64tab", laid_math_bits_deBruijn64tab), ("internal/strconv.uint64pow10", laid_internal_strconv_uint64pow10), ("unicode/utf8.acceptRanges", laid_unicode_utf8_acceptRanges), ("unicode/utf8.first", laid_unicode_utf8_first)] }
def ShiftReadsSaid : Prop := shiftReadsRow.holds Tryz.pinned (OpenSpec.ofChange shiftReadsSpec)

/-- ITS FALSE NEIGHBOUR: 'it returns false'. Refute it at one input. -/
def shiftReadsWrong : ChangeSpec := { name := "shiftReads", fn := fun _ => fun
  | [d] => { results := [.lit (.bool false)], args := [d] }
  | _ => none }
def ShiftReadsWrongFalsely : Prop := shiftReadsRow.holds Tryz.pinned (OpenSpec.ofChange shiftReadsWrong)

/-- 'nacrelaw05.ShiftSpoilt': WHATEVER THE INPUT: true; the input reads as it did. -/
def shiftSpoiltSpec : ChangeSpec := { name := "shiftSpoilt", fn := fun _ => fun
  | [d1, d2, d3] => { results := [.lit (.bool true)], args := [d1, d2, d3] }
  | _ => none }
def shiftSpoiltRow : OpenClaim := { program := "ytkpbdjpekjdhcaagreatdoor", sum := "1ff0200560f1adf86f7d52e712f3e8d83186aaf2b5e0a867594d9ee659875a54", func := "nacre/nacrelaw05.ShiftSpoilt", spec := "shiftSpoilt", inPlace := ["internal/bytealg.CountString", "internal/bytealg.IndexByteString", "internal/bytealg.IndexString", "internal/abi.NoEscape", "internal/bytealg.MakeNoZero"], unfollowed := true, recurses := true, named := ["unicode/utf8.first", "unicode/utf8.acceptRanges", "internal/bytealg.MaxLen", "internal/strconv.uint64pow10", "math/bits.deBruijn32tab", "math/bits.deBruijn64tab"], plainKeys := false, apart := false, laid := [("math/bits.deBruijn32tab", laid_math_bits_deBruijn32tab), ("math/bits.deBruijn64tab", laid_math_bits_deBruijn64tab), ("internal/strconv.uint64pow10", laid_internal_strconv_uint64pow10), ("unicode/utf8.acceptRanges", laid_unicode_utf8_acceptRanges), ("unicode/utf8.first", laid_unicode_utf8_first)] }
def ShiftSpoiltSaid : Prop := shiftSpoiltRow.holds Tryz.pinned (OpenSpec.ofChange shiftSpoiltSpec)

/-- ITS FALSE NEIGHBOUR: 'it returns false'. Refute it at one input. -/
def shiftSpoiltWrong : ChangeSpec := { name := "shiftSpoilt", fn := fun _ => fun
  | [d1, d2, d3] => { results := [.lit (.bool false)], args := [d1, d2, d3] }
  | _ => none }
def ShiftSpoiltWrongFalsely : Prop := shiftSpoiltRow.holds Tryz.pinned (OpenSpec.ofChange shiftSpoiltWrong)

/-- 'nacrelaw05.ShiftOrders': WHATEVER THE INPUT: true; the input reads as it did. -/
def shiftOrdersSpec : ChangeSpec := { name := "shiftOrders", fn := fun _ => fun
  | [d1, d2, d3] => { results := [.lit (.bool true)], args := [d1, d2, d3] }
  | _ => none }
def shiftOrdersRow : OpenClaim := { program := "ytkpbdjpekjdhcaagreatdoor", sum := "1ff0200560f1adf86f7d52e712f3e8d83186aaf2b5e0a867594d9ee659875a54", func := "nacre/nacrelaw05.ShiftOrders", spec := "shiftOrders", inPlace := ["internal/bytealg.CountString", "internal/bytealg.IndexByteString", "internal/bytealg.IndexString", "internal/abi.NoEscape", "internal/bytealg.MakeNoZero"], unfollowed := true, recurses := true, named := ["unicode/utf8.first", "unicode/utf8.acceptRanges", "internal/bytealg.MaxLen", "internal/strconv.uint64pow10", "math/bits.deBruijn32tab", "math/bits.deBruijn64tab"], plainKeys := false, apart := false, laid := [("math/bits.deBruijn32tab", laid_math_bits_deBruijn32tab), ("math/bits.deBruijn64tab", laid_math_bits_deBruijn64tab), ("internal/strconv.uint64pow10", laid_internal_strconv_uint64pow10), ("unicode/utf8.acceptRanges", laid_unicode_utf8_acceptRanges), ("unicode/utf8.first", laid_unicode_utf8_first)] }
def ShiftOrdersSaid : Prop := shiftOrdersRow.holds Tryz.pinned (OpenSpec.ofChange shiftOrdersSpec)

/-- ITS FALSE NEIGHBOUR: 'it returns false'. Refute it at one input. -/
def shiftOrdersWrong : ChangeSpec := { name := "shiftOrders", fn := fun _ => fun
  | [d1, d2, d3] => { results := [.lit (.bool false)], args := [d1, d2, d3] }
  | _ => none }
def ShiftOrdersWrongFalsely : Prop := shiftOrdersRow.holds Tryz.pinned (OpenSpec.ofChange shiftOrdersWrong)

/-- 'nacrelaw05.ShiftStaffs': WHATEVER THE INPUT: true; the input reads as it did. -/
def shiftStaffsSpec : ChangeSpec := { name := "shiftStaffs", fn := fun _ => fun
  | [d1, d2] => { results := [.lit (.bool true)], args := [d1, d2] }
  | _ => none }
def shiftStaffsRow : OpenClaim := { program := "ytkpbdjpekjdhcaagreatdoor", sum := "1ff0200560f1adf86f7d52e712f3e8d83186aaf2b5e0a867594d9ee659875a54", func := "nacre/nacrelaw05.ShiftStaffs", spec := "shiftStaffs", inPlace := ["internal/bytealg.CountString", "internal/bytealg.IndexByteString", "internal/bytealg.IndexString", "internal/abi.NoEscape", "internal/bytealg.MakeNoZero"], unfollowed := true, recurses := true, named := ["unicode/utf8.first", "unicode/utf8.acceptRanges", "internal/bytealg.MaxLen", "internal/strconv.uint64pow10", "math/bits.deBruijn32tab", "math/bits.deBruijn64tab"], plainKeys := false, apart := false, laid := [("math/bits.deBruijn32tab", laid_math_bits_deBruijn32tab), ("math/bits.deBruijn64tab", laid_math_bits_deBruijn64tab), ("internal/strconv.uint64pow10", laid_internal_strconv_uint64pow10), ("unicode/utf8.acceptRanges", laid_unicode_utf8_acceptRanges), ("unicode/utf8.first", laid_unicode_utf8_first)] }
def ShiftStaffsSaid : Prop := shiftStaffsRow.holds Tryz.pinned (OpenSpec.ofChange shiftStaffsSpec)

/-- ITS FALSE NEIGHBOUR: 'it returns false'. Refute it at one input. -/
def shiftStaffsWrong : ChangeSpec := { name := "shiftStaffs", fn := fun _ => fun
  | [d1, d2] => { results := [.lit (.bool false)], args := [d1, d2] }
  | _ => none }
def ShiftStaffsWrongFalsely : Prop := shiftStaffsRow.holds Tryz.pinned (OpenSpec.ofChange shiftStaffsWrong)

/-- 'nacrelaw05.ShiftRivals': WHATEVER THE INPUT: true; the input reads as it did. -/
def shiftRivalsSpec : ChangeSpec := { name := "shiftRivals", fn := fun _ => fun
  | [d1, d2] => { results := [.lit (.bool true)], args := [d1, d2] }
  | _ => none }
def shiftRivalsRow : OpenClaim := { program := "ytkpbdjpekjdhcaagreatdoor", sum := "1ff0200560f1adf86f7d52e712f3e8d83186aaf2b5e0a867594d9ee659875a54", func := "nacre/nacrelaw05.ShiftRivals", spec := "shiftRivals", inPlace := ["internal/bytealg.CountString", "internal/bytealg.IndexByteString", "internal/bytealg.IndexString", "internal/abi.NoEscape", "internal/bytealg.MakeNoZero"], unfollowed := true, recurses := true, named := ["unicode/utf8.first", "unicode/utf8.acceptRanges", "internal/bytealg.MaxLen", "internal/strconv.uint64pow10", "math/bits.deBruijn32tab", "math/bits.deBruijn64tab"], plainKeys := false, apart := false, laid := [("math/bits.deBruijn32tab", laid_math_bits_deBruijn32tab), ("math/bits.deBruijn64tab", laid_math_bits_deBruijn64tab), ("internal/strconv.uint64pow10", laid_internal_strconv_uint64pow10), ("unicode/utf8.acceptRanges", laid_unicode_utf8_acceptRanges), ("unicode/utf8.first", laid_unicode_utf8_first)] }
def ShiftRivalsSaid : Prop := shiftRivalsRow.holds Tryz.pinned (OpenSpec.ofChange shiftRivalsSpec)

/-- ITS FALSE NEIGHBOUR: 'it returns false'. Refute it at one input. -/
def shiftRivalsWrong : ChangeSpec := { name := "shiftRivals", fn := fun _ => fun
  | [d1, d2] => { results := [.lit (.bool false)], args := [d1, d2] }
  | _ => none }
def ShiftRivalsWrongFalsely : Prop := shiftRivalsRow.holds Tryz.pinned (OpenSpec.ofChange shiftRivalsWrong)

/-- 'nacrelaw05.ShiftBreathes': WHATEVER THE INPUT: true; the input reads as it did. -/
def shiftBreathesSpec : ChangeSpec := { name := "shiftBreathes", fn := fun _ => fun
  | [d1, d2, d3] => { results := [.lit (.bool true)], args := [d1, d2, d3] }
  | _ => none }
def shiftBreathesRow : OpenClaim := { program := "ytkpbdjpekjdhcaagreatdoor", sum := "1ff0200560f1adf86f7d52e712f3e8d83186aaf2b5e0a867594d9ee659875a54", func := "nacre/nacrelaw05.ShiftBreathes", spec := "shiftBreathes", inPlace := ["internal/bytealg.CountString", "internal/bytealg.IndexByteString", "internal/bytealg.IndexString", "internal/abi.NoEscape", "internal/bytealg.MakeNoZero"], unfollowed := true, recurses := true, named := ["unicode/utf8.first", "unicode/utf8.acceptRanges", "internal/bytealg.MaxLen", "internal/strconv.uint64pow10", "math/bits.deBruijn32tab", "math/bits.deBruijn64tab"], plainKeys := false, apart := false, laid := [("math/bits.deBruijn32tab", laid_math_bits_deBruijn32tab), ("math/bits.deBruijn64tab", laid_math_bits_deBruijn64tab), ("internal/strconv.uint64pow10", laid_internal_strconv_uint64pow10), ("unicode/utf8.acceptRanges", laid_unicode_utf8_acceptRanges), ("unicode/utf8.first", laid_unicode_utf8_first)] }
def ShiftBreathesSaid : Prop := shiftBreathesRow.holds Tryz.pinned (OpenSpec.ofChange shiftBreathesSpec)

/-- ITS FALSE NEIGHBOUR: 'it returns false'. Refute it at one input. -/
def shiftBreathesWrong : ChangeSpec := { name := "shiftBreathes", fn := fun _ => fun
  | [d1, d2, d3] => { results := [.lit (.bool false)], args := [d1, d2, d3] }
  | _ => none }
def ShiftBreathesWrongFalsely : Prop := shiftBreathesRow.holds Tryz.pinned (OpenSpec.ofChange shiftBreathesWrong)

/-- 'nacrelaw05.ShiftAny': WHATEVER THE INPUT: true; the input reads as it did. -/
def shiftAnySpec : ChangeSpec := { name := "shiftAny", fn := fun _ => fun
  | [d1, d2, d3] => { results := [.lit (.bool true)], args := [d1, d2, d3] }
  | _ => none }
def shiftAnyRow : OpenClaim := { program := "ytkpbdjpekjdhcaagreatdoor", sum := "1ff0200560f1adf86f7d52e712f3e8d83186aaf2b5e0a867594d9ee659875a54", func := "nacre/nacrelaw05.ShiftAny", spec := "shiftAny", inPlace := ["internal/bytealg.CountString", "internal/bytealg.IndexByteString", "internal/bytealg.IndexString", "internal/abi.NoEscape", "internal/bytealg.MakeNoZero"], unfollowed := true, recurses := true, named := ["unicode/utf8.first", "unicode/utf8.acceptRanges", "internal/bytealg.MaxLen", "internal/strconv.uint64pow10", "math/bits.deBruijn32tab", "math/bits.deBruijn64tab"], plainKeys := false, apart := false, laid := [("math/bits.deBruijn32tab", laid_math_bits_deBruijn32tab), ("math/bits.deBruijn64tab", laid_math_bits_deBruijn64tab), ("internal/strconv.uint64pow10", laid_internal_strconv_uint64pow10), ("unicode/utf8.acceptRanges", laid_unicode_utf8_acceptRanges), ("unicode/utf8.first", laid_unicode_utf8_first)] }
def ShiftAnySaid : Prop := shiftAnyRow.holds Tryz.pinned (OpenSpec.ofChange shiftAnySpec)

/-- ITS FALSE NEIGHBOUR: 'it returns false'. Refute it at one input. -/
def shiftAnyWrong : ChangeSpec := { name := "shiftAny", fn := fun _ => fun
  | [d1, d2, d3] => { results := [.lit (.bool false)], args := [d1, d2, d3] }
  | _ => none }
def ShiftAnyWrongFalsely : Prop := shiftAnyRow.holds Tryz.pinned (OpenSpec.ofChange shiftAnyWrong)

/-- 'nacrelaw05.ShiftMore': WHATEVER THE INPUT: true; the input reads as it did. -/
def shiftMoreSpec : ChangeSpec := { name := "shiftMore", fn := fun _ => fun
  | [d1, d2, d3, d4, d5, d6, d7] => { results := [.lit (.bool true)], args := [d1, d2, d3, d4, d5, d6, d7] }
  | _ => none }
def shiftMoreRow : OpenClaim := { program := "ytkpbdjpekjdhcaagreatdoor", sum := "1ff0200560f1adf86f7d52e712f3e8d83186aaf2b5e0a867594d9ee659875a54", func := "nacre/nacrelaw05.ShiftMore", spec := "shiftMore", inPlace := ["internal/bytealg.CountString", "internal/bytealg.IndexByteString", "internal/bytealg.IndexString", "internal/abi.NoEscape", "internal/bytealg.MakeNoZero"], unfollowed := true, recurses := true, named := ["unicode/utf8.first", "unicode/utf8.acceptRanges", "internal/bytealg.MaxLen", "internal/strconv.uint64pow10", "math/bits.deBruijn32tab", "math/bits.deBruijn64tab"], plainKeys := false, apart := false, laid := [("math/bits.deBruijn32tab", laid_math_bits_deBruijn32tab), ("math/bits.deBruijn64tab", laid_math_bits_deBruijn64tab), ("internal/strconv.uint64pow10", laid_internal_strconv_uint64pow10), ("unicode/utf8.acceptRanges", laid_unicode_utf8_acceptRanges), ("unicode/utf8.first", laid_unicode_utf8_first)] }
def ShiftMoreSaid : Prop := shiftMoreRow.holds Tryz.pinned (OpenSpec.ofChange shiftMoreSpec)

/-- ITS FALSE NEIGHBOUR: 'it returns false'. Refute it at one input. -/
def shiftMoreWrong : ChangeSpec := { name := "shiftMore", fn := fun _ => fun
  | [d1, d2, d3, d4, d5, d6, d7] => { results := [.lit (.bool false)], args := [d1, d2, d3, d4, d5, d6, d7] }
  | _ => none }
def ShiftMoreWrongFalsely : Prop := shiftMoreRow.holds Tryz.pinned (OpenSpec.ofChange shiftMoreWrong)

/-- 'nacrelaw05.ShiftTrue': WHATEVER THE INPUT: true; the input reads as it did. -/
def shiftTrueSpec : ChangeSpec := { name := "shiftTrue", fn := fun _ => fun
  | [d1, d2, d3] => { results := [.lit (.bool true)], args := [d1, d2, d3] }
  | _ => none }
def shiftTrueRow : OpenClaim := { program := "ytkpbdjpekjdhcaagreatdoor", sum := "1ff0200560f1adf86f7d52e712f3e8d83186aaf2b5e0a867594d9ee659875a54", func := "nacre/nacrelaw05.ShiftTrue", spec := "shiftTrue", inPlace := ["internal/bytealg.CountString", "internal/bytealg.IndexByteString", "internal/bytealg.IndexString", "internal/abi.NoEscape", "internal/bytealg.MakeNoZero"], unfollowed := true, recurses := true, named := ["unicode/utf8.first", "unicode/utf8.acceptRanges", "internal/bytealg.MaxLen", "internal/strconv.uint64pow10", "math/bits.deBruijn32tab", "math/bits.deBruijn64tab"], plainKeys := false, apart := false, laid := [("math/bits.deBruijn32tab", laid_math_bits_deBruijn32tab), ("math/bits.deBruijn64tab", laid_math_bits_deBruijn64tab), ("internal/strconv.uint64pow10", laid_internal_strconv_uint64pow10), ("unicode/utf8.acceptRanges", laid_unicode_utf8_acceptRanges), ("unicode/utf8.first", laid_unicode_utf8_first)] }
def ShiftTrueSaid : Prop := shiftTrueRow.holds Tryz.pinned (OpenSpec.ofChange shiftTrueSpec)

/-- ITS FALSE NEIGHBOUR: 'it returns false'. Refute it at one input. -/
def shiftTrueWrong : ChangeSpec := { name := "shiftTrue", fn := fun _ => fun
  | [d1, d2, d3] => { results := [.lit (.bool false)], args := [d1, d2, d3] }
  | _ => none }
def ShiftTrueWrongFalsely : Prop := shiftTrueRow.holds Tryz.pinned (OpenSpec.ofChange shiftTrueWrong)

/-- 'nacrelaw05.ShiftAir': WHATEVER THE INPUT: true; the input reads as it did. -/
def shiftAirSpec : ChangeSpec := { name := "shiftAir", fn := fun _ => fun
  | [d1, d2, d3] => { results := [.lit (.bool true)], args := [d1, d2, d3] }
  | _ => none }
def shiftAirRow : OpenClaim := { program := "ytkpbdjpekjdhcaagreatdoor", sum := "1ff0200560f1adf86f7d52e712f3e8d83186aaf2b5e0a867594d9ee659875a54", func := "nacre/nacrelaw05.ShiftAir", spec := "shiftAir", inPlace := ["internal/bytealg.CountString", "internal/bytealg.IndexByteString", "internal/bytealg.IndexString", "internal/abi.NoEscape", "internal/bytealg.MakeNoZero"], unfollowed := true, recurses := true, named := ["unicode/utf8.first", "unicode/utf8.acceptRanges", "internal/bytealg.MaxLen", "internal/strconv.uint64pow10", "math/bits.deBruijn32tab", "math/bits.deBruijn64tab"], plainKeys := false, apart := false, laid := [("math/bits.deBruijn32tab", laid_math_bits_deBruijn32tab), ("math/bits.deBruijn64tab", laid_math_bits_deBruijn64tab), ("internal/strconv.uint64pow10", laid_internal_strconv_uint64pow10), ("unicode/utf8.acceptRanges", laid_unicode_utf8_acceptRanges), ("unicode/utf8.first", laid_unicode_utf8_first)] }
def ShiftAirSaid : Prop := shiftAirRow.holds Tryz.pinned (OpenSpec.ofChange shiftAirSpec)

/-- ITS FALSE NEIGHBOUR: 'it returns false'. Refute it at one input. -/
def shiftAirWrong : ChangeSpec := { name := "shiftAir", fn := fun _ => fun
  | [d1, d2, d3] => { results := [.lit (.bool false)], args := [d1, d2, d3] }
  | _ => none }
def ShiftAirWrongFalsely : Prop := shiftAirRow.holds Tryz.pinned (OpenSpec.ofChange shiftAirWrong)

/-- 'nacrelaw05.ShiftLost': WHATEVER THE INPUT: true; the input reads as it did. -/
def shiftLostSpec : ChangeSpec := { name := "shiftLost", fn := fun _ => fun
  | [d1, d2, d3] => { results := [.lit (.bool true)], args := [d1, d2, d3] }
  | _ => none }
def shiftLostRow : OpenClaim := { program := "ytkpbdjpekjdhcaagreatdoor", sum := "1ff0200560f1adf86f7d52e712f3e8d83186aaf2b5e0a867594d9ee659875a54", func := "nacre/nacrelaw05.ShiftLost", spec := "shiftLost", inPlace := ["internal/bytealg.CountString", "internal/bytealg.IndexByteString", "internal/bytealg.IndexString", "internal/abi.NoEscape", "internal/bytealg.MakeNoZero"], unfollowed := true, recurses := true, named := ["unicode/utf8.first", "unicode/utf8.acceptRanges", "internal/bytealg.MaxLen", "internal/strconv.uint64pow10", "math/bits.deBruijn32tab", "math/bits.deBruijn64tab"], plainKeys := false, apart := false, laid := [("math/bits.deBruijn32tab", laid_math_bits_deBruijn32tab), ("math/bits.deBruijn64tab", laid_math_bits_deBruijn64tab), ("internal/strconv.uint64pow10", laid_internal_strconv_uint64pow10), ("unicode/utf8.acceptRanges", laid_unicode_utf8_acceptRanges), ("unicode/utf8.first", laid_unicode_utf8_first)] }
def ShiftLostSaid : Prop := shiftLostRow.holds Tryz.pinned (OpenSpec.ofChange shiftLostSpec)

/-- ITS FALSE NEIGHBOUR: 'it returns false'. Refute it at one input. -/
def shiftLostWrong : ChangeSpec := { name := "shiftLost", fn := fun _ => fun
  | [d1, d2, d3] => { results := [.lit (.bool false)], args := [d1, d2, d3] }
  | _ => none }
def ShiftLostWrongFalsely : Prop := shiftLostRow.holds Tryz.pinned (OpenSpec.ofChange shiftLostWrong)

/-- 'nacrelaw05.ShiftWas': WHATEVER THE INPUT: true; the input reads as it did. -/
def shiftWasSpec : ChangeSpec := { name := "shiftWas", fn := fun _ => fun
  | [d1, d2, d3, d4, d5] => { results := [.lit (.bool true)], args := [d1, d2, d3, d4, d5] }
  | _ => none }
def shiftWasRow : OpenClaim := { program := "ytkpbdjpekjdhcaagreatdoor", sum := "1ff0200560f1adf86f7d52e712f3e8d83186aaf2b5e0a867594d9ee659875a54", func := "nacre/nacrelaw05.ShiftWas", spec := "shiftWas", inPlace := ["internal/bytealg.CountString", "internal/bytealg.IndexByteString", "internal/bytealg.IndexString", "internal/abi.NoEscape", "internal/bytealg.MakeNoZero"], unfollowed := true, recurses := true, named := ["unicode/utf8.first", "unicode/utf8.acceptRanges", "internal/bytealg.MaxLen", "internal/strconv.uint64pow10", "math/bits.deBruijn32tab", "math/bits.deBruijn64tab"], plainKeys := false, apart := false, laid := [("math/bits.deBruijn32tab", laid_math_bits_deBruijn32tab), ("math/bits.deBruijn64tab", laid_math_bits_deBruijn64tab), ("internal/strconv.uint64pow10", laid_internal_strconv_uint64pow10), ("unicode/utf8.acceptRanges", laid_unicode_utf8_acceptRanges), ("unicode/utf8.first", laid_unicode_utf8_first)] }
def ShiftWasSaid : Prop := shiftWasRow.holds Tryz.pinned (OpenSpec.ofChange shiftWasSpec)

/-- ITS FALSE NEIGHBOUR: 'it returns false'. Refute it at one input. -/
def shiftWasWrong : ChangeSpec := { name := "shiftWas", fn := fun _ => fun
  | [d1, d2, d3, d4, d5] => { results := [.lit (.bool false)], args := [d1, d2, d3, d4, d5] }
  | _ => none }
def ShiftWasWrongFalsely : Prop := shiftWasRow.holds Tryz.pinned (OpenSpec.ofChange shiftWasWrong)

/-- 'nacrelaw05.ShiftRuns': WHATEVER THE INPUT: true; the input reads as it did. -/
def shiftRunsSpec : ChangeSpec := { name := "shiftRuns", fn := fun _ => fun
  | [d1, d2] => { results := [.lit (.bool true)], args := [d1, d2] }
  | _ => none }
def shiftRunsRow : OpenClaim := { program := "ytkpbdjpekjdhcaagreatdoor", sum := "1ff0200560f1adf86f7d52e712f3e8d83186aaf2b5e0a867594d9ee659875a54", func := "nacre/nacrelaw05.ShiftRuns", spec := "shiftRuns", inPlace := ["internal/bytealg.CountString", "internal/bytealg.IndexByteString", "internal/bytealg.IndexString", "internal/abi.NoEscape", "internal/bytealg.MakeNoZero"], unfollowed := true, recurses := true, named := ["unicode/utf8.first", "unicode/utf8.acceptRanges", "internal/bytealg.MaxLen", "internal/strconv.uint64pow10", "math/bits.deBruijn32tab", "math/bits.deBruijn64tab"], plainKeys := false, apart := false, laid := [("math/bits.deBruijn32tab", laid_math_bits_deBruijn32tab), ("math/bits.deBruijn64tab", laid_math_bits_deBruijn64tab), ("internal/strconv.uint64pow10", laid_internal_strconv_uint64pow10), ("unicode/utf8.acceptRanges", laid_unicode_utf8_acceptRanges), ("unicode/utf8.first", laid_unicode_utf8_first)] }
def ShiftRunsSaid : Prop := shiftRunsRow.holds Tryz.pinned (OpenSpec.ofChange shiftRunsSpec)

/-- ITS FALSE NEIGHBOUR: 'it returns false'. Refute it at one input. -/
def shiftRunsWrong : ChangeSpec := { name := "shiftRuns", fn := fun _ => fun
  | [d1, d2] => { results := [.lit (.bool false)], args := [d1, d2] }
  | _ => none }
def ShiftRunsWrongFalsely : Prop := shiftRunsRow.holds Tryz.pinned (OpenSpec.ofChange shiftRunsWrong)

/- THE SECOND FORM. 'bulk': how many values and letters a reading holds, each counted each time it is reached (what is shared counts as often as it is met; a slice's spare places count too). A statement '..UptoSaid' is the law's where the arguments, and the package variables that the reading takes, are together of bulk at most 1048576: NARROWER than '..Said'. Prove '..Said' where nothing that the law and all that it calls make is longer than what came in: it says more and counts as full. Else prove '..UptoSaid'. A law counts once. -/
mutual
def uptoBulk {H : Type} : DataW H → Nat
  | .lit (.string bytes) => bytes.length + 1
  | .lit _ => 1
  | .nil => 1
  | .ptr d => uptoBulk d + 1
  | .slice elems spare => uptoBulkAll elems + uptoBulkAll spare + 1
  | .agg parts => uptoBulkAll parts + 1
  | .iface _ d => uptoBulk d + 1
  | .map entries => uptoBulkEntries entries + 1
  | .held _ => 1
def uptoBulkAll {H : Type} : List (DataW H) → Nat
  | [] => 0
  | d :: r => uptoBulk d + uptoBulkAll r
def uptoBulkEntries {H : Type} : List (Lit × DataW H) → Nat
  | [] => 0
  | x :: r => uptoBulkEntry x + uptoBulkEntries r
def uptoBulkEntry {H : Type} : Lit × DataW H → Nat
  | (.string bytes, d) => bytes.length + uptoBulk d + 1
  | (_, d) => uptoBulk d + 1
 end
def uptoSmall : (H : Type) → List (DataW H) → Bool := fun _ ds => decide (uptoBulkAll ds ≤ 1048576)
def OpenSpec.upto (s : _root_.Go.ChangeSpec) : _root_.Go.OpenSpec := { _root_.Go.OpenSpec.ofChange s with cond := some uptoSmall }

/-- 'nacrelaw05.ShiftKnowns', WHERE WHAT IT READS IS OF BULK AT MOST 1048576: true; the input reads as it did. -/
def shiftKnownsUptoRow : OpenClaim := { program := "ytkpbdjpekjdhcaagreatdoor", sum := "1ff0200560f1adf86f7d52e712f3e8d83186aaf2b5e0a867594d9ee659875a54", func := "nacre/nacrelaw05.ShiftKnowns", spec := "shiftKnowns", inPlace := ["internal/bytealg.CountString", "internal/bytealg.IndexByteString", "internal/bytealg.IndexString", "internal/abi.NoEscape", "internal/bytealg.MakeNoZero"], unfollowed := true, recurses := true, named := ["unicode/utf8.first", "unicode/utf8.acceptRanges", "internal/bytealg.MaxLen", "internal/strconv.uint64pow10", "math/bits.deBruijn32tab", "math/bits.deBruijn64tab"], plainKeys := false, apart := false, laid := [("math/bits.deBruijn32tab", laid_math_bits_deBruijn32tab), ("math/bits.deBruijn64tab", laid_math_bits_deBruijn64tab), ("internal/strconv.uint64pow10", laid_internal_strconv_uint64pow10), ("unicode/utf8.acceptRanges", laid_unicode_utf8_acceptRanges), ("unicode/utf8.first", laid_unicode_utf8_first)], narrowed := true }
def ShiftKnownsUptoSaid : Prop := shiftKnownsUptoRow.holds Tryz.pinned (OpenSpec.upto shiftKnownsSpec)

/-- 'nacrelaw05.ShiftRosters', WHERE WHAT IT READS IS OF BULK AT MOST 1048576: true; the input reads as it did. -/
def shiftRostersUptoRow : OpenClaim := { program := "ytkpbdjpekjdhcaagreatdoor", sum := "1ff0200560f1adf86f7d52e712f3e8d83186aaf2b5e0a867594d9ee659875a54", func := "nacre/nacrelaw05.ShiftRosters", spec := "shiftRosters", inPlace := ["internal/bytealg.CountString", "internal/bytealg.IndexByteString", "internal/bytealg.IndexString", "internal/abi.NoEscape", "internal/bytealg.MakeNoZero"], unfollowed := true, recurses := true, named := ["unicode/utf8.first", "unicode/utf8.acceptRanges", "internal/bytealg.MaxLen", "internal/strconv.uint64pow10", "math/bits.deBruijn32tab", "math/bits.deBruijn64tab"], plainKeys := false, apart := false, laid := [("math/bits.deBruijn32tab", laid_math_bits_deBruijn32tab), ("math/bits.deBruijn64tab", laid_math_bits_deBruijn64tab), ("internal/strconv.uint64pow10", laid_internal_strconv_uint64pow10), ("unicode/utf8.acceptRanges", laid_unicode_utf8_acceptRanges), ("unicode/utf8.first", laid_unicode_utf8_first)], narrowed := true }
def ShiftRostersUptoSaid : Prop := shiftRostersUptoRow.holds Tryz.pinned (OpenSpec.upto shiftRostersSpec)

/-- 'nacrelaw05.ShiftWheres', WHERE WHAT IT READS IS OF BULK AT MOST 1048576: true; the input reads as it did. -/
def shiftWheresUptoRow : OpenClaim := { program := "ytkpbdjpekjdhcaagreatdoor", sum := "1ff0200560f1adf86f7d52e712f3e8d83186aaf2b5e0a867594d9ee659875a54", func := "nacre/nacrelaw05.ShiftWheres", spec := "shiftWheres", inPlace := ["internal/bytealg.CountString", "internal/bytealg.IndexByteString", "internal/bytealg.IndexString", "internal/abi.NoEscape", "internal/bytealg.MakeNoZero"], unfollowed := true, recurses := true, named := ["unicode/utf8.first", "unicode/utf8.acceptRanges", "internal/bytealg.MaxLen", "internal/strconv.uint64pow10", "math/bits.deBruijn32tab", "math/bits.deBruijn64tab"], plainKeys := false, apart := false, laid := [("math/bits.deBruijn32tab", laid_math_bits_deBruijn32tab), ("math/bits.deBruijn64tab", laid_math_bits_deBruijn64tab), ("internal/strconv.uint64pow10", laid_internal_strconv_uint64pow10), ("unicode/utf8.acceptRanges", laid_unicode_utf8_acceptRanges), ("unicode/utf8.first", laid_unicode_utf8_first)], narrowed := true }
def ShiftWheresUptoSaid : Prop := shiftWheresUptoRow.holds Tryz.pinned (OpenSpec.upto shiftWheresSpec)

/-- 'nacrelaw05.ShiftMades', WHERE WHAT IT READS IS OF BULK AT MOST 1048576: true; the input reads as it did. -/
def shiftMadesUptoRow : OpenClaim := { program := "ytkpbdjpekjdhcaagreatdoor", sum := "1ff0200560f1adf86f7d52e712f3e8d83186aaf2b5e0a867594d9ee659875a54", func := "nacre/nacrelaw05.ShiftMades", spec := "shiftMades", inPlace := ["internal/bytealg.CountString", "internal/bytealg.IndexByteString", "internal/bytealg.IndexString", "internal/abi.NoEscape", "internal/bytealg.MakeNoZero"], unfollowed := true, recurses := true, named := ["unicode/utf8.first", "unicode/utf8.acceptRanges", "internal/bytealg.MaxLen", "internal/strconv.uint64pow10", "math/bits.deBruijn32tab", "math/bits.deBruijn64tab"], plainKeys := false, apart := false, laid := [("math/bits.deBruijn32tab", laid_math_bits_deBruijn32tab), ("math/bits.deBruijn64tab", laid_math_bits_deBruijn64tab), ("internal/strconv.uint64pow10", laid_internal_strconv_uint64pow10), ("unicode/utf8.acceptRanges", laid_unicode_utf8_acceptRanges), ("unicode/utf8.first", laid_unicode_utf8_first)], narrowed := true }
def ShiftMadesUptoSaid : Prop := shiftMadesUptoRow.holds Tryz.pinned (OpenSpec.upto shiftMadesSpec)

/-- 'nacrelaw05.ShiftPrints', WHERE WHAT IT READS IS OF BULK AT MOST 1048576: true; the input reads as it did. -/
def shiftPrintsUptoRow : OpenClaim := { program := "ytkpbdjpekjdhcaagreatdoor", sum := "1ff0200560f1adf86f7d52e712f3e8d83186aaf2b5e0a867594d9ee659875a54", func := "nacre/nacrelaw05.ShiftPrints", spec := "shiftPrints", inPlace := ["internal/bytealg.CountString", "internal/bytealg.IndexByteString", "internal/bytealg.IndexString", "internal/abi.NoEscape", "internal/bytealg.MakeNoZero"], unfollowed := true, recurses := true, named := ["unicode/utf8.first", "unicode/utf8.acceptRanges", "internal/bytealg.MaxLen", "internal/strconv.uint64pow10", "math/bits.deBruijn32tab", "math/bits.deBruijn64tab"], plainKeys := false, apart := false, laid := [("math/bits.deBruijn32tab", laid_math_bits_deBruijn32tab), ("math/bits.deBruijn64tab", laid_math_bits_deBruijn64tab), ("internal/strconv.uint64pow10", laid_internal_strconv_uint64pow10), ("unicode/utf8.acceptRanges", laid_unicode_utf8_acceptRanges), ("unicode/utf8.first", laid_unicode_utf8_first)], narrowed := true }
def ShiftPrintsUptoSaid : Prop := shiftPrintsUptoRow.holds Tryz.pinned (OpenSpec.upto shiftPrintsSpec)

/-- 'nacrelaw05.ShiftReads', WHERE WHAT IT READS IS OF BULK AT MOST 1048576: true; the input reads as it did. -/
def shiftReadsUptoRow : OpenClaim := { program := "ytkpbdjpekjdhcaagreatdoor", sum := "1ff0200560f1adf86f7d52e712f3e8d83186aaf2b5e0a867594d9ee659875a54", func := "nacre/nacrelaw05.ShiftReads", spec := "shiftReads", inPlace := ["internal/bytealg.CountString", "internal/bytealg.IndexByteString", "internal/bytealg.IndexString", "internal/abi.NoEscape", "internal/bytealg.MakeNoZero"], unfollowed := true, recurses := true, named := ["unicode/utf8.first", "unicode/utf8.acceptRanges", "internal/bytealg.MaxLen", "internal/strconv.uint64pow10", "math/bits.deBruijn32tab", "math/bits.deBruijn64tab"], plainKeys := false, apart := false, laid := [("math/bits.deBruijn32tab", laid_math_bits_deBruijn32tab), ("math/bits.deBruijn64tab", laid_math_bits_deBruijn64tab), ("internal/strconv.uint64pow10", laid_internal_strconv_uint64pow10), ("unicode/utf8.acceptRanges", laid_unicode_utf8_acceptRanges), ("unicode/utf8.first", laid_unicode_utf8_first)], narrowed := true }
def ShiftReadsUptoSaid : Prop := shiftReadsUptoRow.holds Tryz.pinned (OpenSpec.upto shiftReadsSpec)

/-- 'nacrelaw05.ShiftSpoilt', WHERE WHAT IT READS IS OF BULK AT MOST 1048576: true; the input reads as it did. -/
def shiftSpoiltUptoRow : OpenClaim := { program := "ytkpbdjpekjdhcaagreatdoor", sum := "1ff0200560f1adf86f7d52e712f3e8d83186aaf2b5e0a867594d9ee659875a54", func := "nacre/nacrelaw05.ShiftSpoilt", spec := "shiftSpoilt", inPlace := ["internal/bytealg.CountString", "internal/bytealg.IndexByteString", "internal/bytealg.IndexString", "internal/abi.NoEscape", "internal/bytealg.MakeNoZero"], unfollowed := true, recurses := true, named := ["unicode/utf8.first", "unicode/utf8.acceptRanges", "internal/bytealg.MaxLen", "internal/strconv.uint64pow10", "math/bits.deBruijn32tab", "math/bits.deBruijn64tab"], plainKeys := false, apart := false, laid := [("math/bits.deBruijn32tab", laid_math_bits_deBruijn32tab), ("math/bits.deBruijn64tab", laid_math_bits_deBruijn64tab), ("internal/strconv.uint64pow10", laid_internal_strconv_uint64pow10), ("unicode/utf8.acceptRanges", laid_unicode_utf8_acceptRanges), ("unicode/utf8.first", laid_unicode_utf8_first)], narrowed := true }
def ShiftSpoiltUptoSaid : Prop := shiftSpoiltUptoRow.holds Tryz.pinned (OpenSpec.upto shiftSpoiltSpec)

/-- 'nacrelaw05.ShiftOrders', WHERE WHAT IT READS IS OF BULK AT MOST 1048576: true; the input reads as it did. -/
def shiftOrdersUptoRow : OpenClaim := { program := "ytkpbdjpekjdhcaagreatdoor", sum := "1ff0200560f1adf86f7d52e712f3e8d83186aaf2b5e0a867594d9ee659875a54", func := "nacre/nacrelaw05.ShiftOrders", spec := "shiftOrders", inPlace := ["internal/bytealg.CountString", "internal/bytealg.IndexByteString", "internal/bytealg.IndexString", "internal/abi.NoEscape", "internal/bytealg.MakeNoZero"], unfollowed := true, recurses := true, named := ["unicode/utf8.first", "unicode/utf8.acceptRanges", "internal/bytealg.MaxLen", "internal/strconv.uint64pow10", "math/bits.deBruijn32tab", "math/bits.deBruijn64tab"], plainKeys := false, apart := false, laid := [("math/bits.deBruijn32tab", laid_math_bits_deBruijn32tab), ("math/bits.deBruijn64tab", laid_math_bits_deBruijn64tab), ("internal/strconv.uint64pow10", laid_internal_strconv_uint64pow10), ("unicode/utf8.acceptRanges", laid_unicode_utf8_acceptRanges), ("unicode/utf8.first", laid_unicode_utf8_first)], narrowed := true }
def ShiftOrdersUptoSaid : Prop := shiftOrdersUptoRow.holds Tryz.pinned (OpenSpec.upto shiftOrdersSpec)

/-- 'nacrelaw05.ShiftStaffs', WHERE WHAT IT READS IS OF BULK AT MOST 1048576: true; the input reads as it did. -/
def shiftStaffsUptoRow : OpenClaim := { program := "ytkpbdjpekjdhcaagreatdoor", sum := "1ff0200560f1adf86f7d52e712f3e8d83186aaf2b5e0a867594d9ee659875a54", func := "nacre/nacrelaw05.ShiftStaffs", spec := "shiftStaffs", inPlace := ["internal/bytealg.CountString", "internal/bytealg.IndexByteString", "internal/bytealg.IndexString", "internal/abi.NoEscape", "internal/bytealg.MakeNoZero"], unfollowed := true, recurses := true, named := ["unicode/utf8.first", "unicode/utf8.acceptRanges", "internal/bytealg.MaxLen", "internal/strconv.uint64pow10", "math/bits.deBruijn32tab", "math/bits.deBruijn64tab"], plainKeys := false, apart := false, laid := [("math/bits.deBruijn32tab", laid_math_bits_deBruijn32tab), ("math/bits.deBruijn64tab", laid_math_bits_deBruijn64tab), ("internal/strconv.uint64pow10", laid_internal_strconv_uint64pow10), ("unicode/utf8.acceptRanges", laid_unicode_utf8_acceptRanges), ("unicode/utf8.first", laid_unicode_utf8_first)], narrowed := true }
def ShiftStaffsUptoSaid : Prop := shiftStaffsUptoRow.holds Tryz.pinned (OpenSpec.upto shiftStaffsSpec)

/-- 'nacrelaw05.ShiftRivals', WHERE WHAT IT READS IS OF BULK AT MOST 1048576: true; the input reads as it did. -/
def shiftRivalsUptoRow : OpenClaim := { program := "ytkpbdjpekjdhcaagreatdoor", sum := "1ff0200560f1adf86f7d52e712f3e8d83186aaf2b5e0a867594d9ee659875a54", func := "nacre/nacrelaw05.ShiftRivals", spec := "shiftRivals", inPlace := ["internal/bytealg.CountString", "internal/bytealg.IndexByteString", "internal/bytealg.IndexString", "internal/abi.NoEscape", "internal/bytealg.MakeNoZero"], unfollowed := true, recurses := true, named := ["unicode/utf8.first", "unicode/utf8.acceptRanges", "internal/bytealg.MaxLen", "internal/strconv.uint64pow10", "math/bits.deBruijn32tab", "math/bits.deBruijn64tab"], plainKeys := false, apart := false, laid := [("math/bits.deBruijn32tab", laid_math_bits_deBruijn32tab), ("math/bits.deBruijn64tab", laid_math_bits_deBruijn64tab), ("internal/strconv.uint64pow10", laid_internal_strconv_uint64pow10), ("unicode/utf8.acceptRanges", laid_unicode_utf8_acceptRanges), ("unicode/utf8.first", laid_unicode_utf8_first)], narrowed := true }
def ShiftRivalsUptoSaid : Prop := shiftRivalsUptoRow.holds Tryz.pinned (OpenSpec.upto shiftRivalsSpec)

/-- 'nacrelaw05.ShiftBreathes', WHERE WHAT IT READS IS OF BULK AT MOST 1048576: true; the input reads as it did. -/
def shiftBreathesUptoRow : OpenClaim := { program := "ytkpbdjpekjdhcaagreatdoor", sum := "1ff0200560f1adf86f7d52e712f3e8d83186aaf2b5e0a867594d9ee659875a54", func := "nacre/nacrelaw05.ShiftBreathes", spec := "shiftBreathes", inPlace := ["internal/bytealg.CountString", "internal/bytealg.IndexByteString", "internal/bytealg.IndexString", "internal/abi.NoEscape", "internal/bytealg.MakeNoZero"], unfollowed := true, recurses := true, named := ["unicode/utf8.first", "unicode/utf8.acceptRanges", "internal/bytealg.MaxLen", "internal/strconv.uint64pow10", "math/bits.deBruijn32tab", "math/bits.deBruijn64tab"], plainKeys := false, apart := false, laid := [("math/bits.deBruijn32tab", laid_math_bits_deBruijn32tab), ("math/bits.deBruijn64tab", laid_math_bits_deBruijn64tab), ("internal/strconv.uint64pow10", laid_internal_strconv_uint64pow10), ("unicode/utf8.acceptRanges", laid_unicode_utf8_acceptRanges), ("unicode/utf8.first", laid_unicode_utf8_first)], narrowed := true }
def ShiftBreathesUptoSaid : Prop := shiftBreathesUptoRow.holds Tryz.pinned (OpenSpec.upto shiftBreathesSpec)

/-- 'nacrelaw05.ShiftAny', WHERE WHAT IT READS IS OF BULK AT MOST 1048576: true; the input reads as it did. -/
def shiftAnyUptoRow : OpenClaim := { program := "ytkpbdjpekjdhcaagreatdoor", sum := "1ff0200560f1adf86f7d52e712f3e8d83186aaf2b5e0a867594d9ee659875a54", func := "nacre/nacrelaw05.ShiftAny", spec := "shiftAny", inPlace := ["internal/bytealg.CountString", "internal/bytealg.IndexByteString", "internal/bytealg.IndexString", "internal/abi.NoEscape", "internal/bytealg.MakeNoZero"], unfollowed := true, recurses := true, named := ["unicode/utf8.first", "unicode/utf8.acceptRanges", "internal/bytealg.MaxLen", "internal/strconv.uint64pow10", "math/bits.deBruijn32tab", "math/bits.deBruijn64tab"], plainKeys := false, apart := false, laid := [("math/bits.deBruijn32tab", laid_math_bits_deBruijn32tab), ("math/bits.deBruijn64tab", laid_math_bits_deBruijn64tab), ("internal/strconv.uint64pow10", laid_internal_strconv_uint64pow10), ("unicode/utf8.acceptRanges", laid_unicode_utf8_acceptRanges), ("unicode/utf8.first", laid_unicode_utf8_first)], narrowed := true }
def ShiftAnyUptoSaid : Prop := shiftAnyUptoRow.holds Tryz.pinned (OpenSpec.upto shiftAnySpec)

/-- 'nacrelaw05.ShiftMore', WHERE WHAT IT READS IS OF BULK AT MOST 1048576: true; the input reads as it did. -/
def shiftMoreUptoRow : OpenClaim := { program := "ytkpbdjpekjdhcaagreatdoor", sum := "1ff0200560f1adf86f7d52e712f3e8d83186aaf2b5e0a867594d9ee659875a54", func := "nacre/nacrelaw05.ShiftMore", spec := "shiftMore", inPlace := ["internal/bytealg.CountString", "internal/bytealg.IndexByteString", "internal/bytealg.IndexString", "internal/abi.NoEscape", "internal/bytealg.MakeNoZero"], unfollowed := true, recurses := true, named := ["unicode/utf8.first", "unicode/utf8.acceptRanges", "internal/bytealg.MaxLen", "internal/strconv.uint64pow10", "math/bits.deBruijn32tab", "math/bits.deBruijn64tab"], plainKeys := false, apart := false, laid := [("math/bits.deBruijn32tab", laid_math_bits_deBruijn32tab), ("math/bits.deBruijn64tab", laid_math_bits_deBruijn64tab), ("internal/strconv.uint64pow10", laid_internal_strconv_uint64pow10), ("unicode/utf8.acceptRanges", laid_unicode_utf8_acceptRanges), ("unicode/utf8.first", laid_unicode_utf8_first)], narrowed := true }
def ShiftMoreUptoSaid : Prop := shiftMoreUptoRow.holds Tryz.pinned (OpenSpec.upto shiftMoreSpec)

/-- 'nacrelaw05.ShiftTrue', WHERE WHAT IT READS IS OF BULK AT MOST 1048576: true; the input reads as it did. -/
def shiftTrueUptoRow : OpenClaim := { program := "ytkpbdjpekjdhcaagreatdoor", sum := "1ff0200560f1adf86f7d52e712f3e8d83186aaf2b5e0a867594d9ee659875a54", func := "nacre/nacrelaw05.ShiftTrue", spec := "shiftTrue", inPlace := ["internal/bytealg.CountString", "internal/bytealg.IndexByteString", "internal/bytealg.IndexString", "internal/abi.NoEscape", "internal/bytealg.MakeNoZero"], unfollowed := true, recurses := true, named := ["unicode/utf8.first", "unicode/utf8.acceptRanges", "internal/bytealg.MaxLen", "internal/strconv.uint64pow10", "math/bits.deBruijn32tab", "math/bits.deBruijn64tab"], plainKeys := false, apart := false, laid := [("math/bits.deBruijn32tab", laid_math_bits_deBruijn32tab), ("math/bits.deBruijn64tab", laid_math_bits_deBruijn64tab), ("internal/strconv.uint64pow10", laid_internal_strconv_uint64pow10), ("unicode/utf8.acceptRanges", laid_unicode_utf8_acceptRanges), ("unicode/utf8.first", laid_unicode_utf8_first)], narrowed := true }
def ShiftTrueUptoSaid : Prop := shiftTrueUptoRow.holds Tryz.pinned (OpenSpec.upto shiftTrueSpec)

/-- 'nacrelaw05.ShiftAir', WHERE WHAT IT READS IS OF BULK AT MOST 1048576: true; the input reads as it did. -/
def shiftAirUptoRow : OpenClaim := { program := "ytkpbdjpekjdhcaagreatdoor", sum := "1ff0200560f1adf86f7d52e712f3e8d83186aaf2b5e0a867594d9ee659875a54", func := "nacre/nacrelaw05.ShiftAir", spec := "shiftAir", inPlace := ["internal/bytealg.CountString", "internal/bytealg.IndexByteString", "internal/bytealg.IndexString", "internal/abi.NoEscape", "internal/bytealg.MakeNoZero"], unfollowed := true, recurses := true, named := ["unicode/utf8.first", "unicode/utf8.acceptRanges", "internal/bytealg.MaxLen", "internal/strconv.uint64pow10", "math/bits.deBruijn32tab", "math/bits.deBruijn64tab"], plainKeys := false, apart := false, laid := [("math/bits.deBruijn32tab", laid_math_bits_deBruijn32tab), ("math/bits.deBruijn64tab", laid_math_bits_deBruijn64tab), ("internal/strconv.uint64pow10", laid_internal_strconv_uint64pow10), ("unicode/utf8.acceptRanges", laid_unicode_utf8_acceptRanges), ("unicode/utf8.first", laid_unicode_utf8_first)], narrowed := true }
def ShiftAirUptoSaid : Prop := shiftAirUptoRow.holds Tryz.pinned (OpenSpec.upto shiftAirSpec)

/-- 'nacrelaw05.ShiftLost', WHERE WHAT IT READS IS OF BULK AT MOST 1048576: true; the input reads as it did. -/
def shiftLostUptoRow : OpenClaim := { program := "ytkpbdjpekjdhcaagreatdoor", sum := "1ff0200560f1adf86f7d52e712f3e8d83186aaf2b5e0a867594d9ee659875a54", func := "nacre/nacrelaw05.ShiftLost", spec := "shiftLost", inPlace := ["internal/bytealg.CountString", "internal/bytealg.IndexByteString", "internal/bytealg.IndexString", "internal/abi.NoEscape", "internal/bytealg.MakeNoZero"], unfollowed := true, recurses := true, named := ["unicode/utf8.first", "unicode/utf8.acceptRanges", "internal/bytealg.MaxLen", "internal/strconv.uint64pow10", "math/bits.deBruijn32tab", "math/bits.deBruijn64tab"], plainKeys := false, apart := false, laid := [("math/bits.deBruijn32tab", laid_math_bits_deBruijn32tab), ("math/bits.deBruijn64tab", laid_math_bits_deBruijn64tab), ("internal/strconv.uint64pow10", laid_internal_strconv_uint64pow10), ("unicode/utf8.acceptRanges", laid_unicode_utf8_acceptRanges), ("unicode/utf8.first", laid_unicode_utf8_first)], narrowed := true }
def ShiftLostUptoSaid : Prop := shiftLostUptoRow.holds Tryz.pinned (OpenSpec.upto shiftLostSpec)

/-- 'nacrelaw05.ShiftWas', WHERE WHAT IT READS IS OF BULK AT MOST 1048576: true; the input reads as it did. -/
def shiftWasUptoRow : OpenClaim := { program := "ytkpbdjpekjdhcaagreatdoor", sum := "1ff0200560f1adf86f7d52e712f3e8d83186aaf2b5e0a867594d9ee659875a54", func := "nacre/nacrelaw05.ShiftWas", spec := "shiftWas", inPlace := ["internal/bytealg.CountString", "internal/bytealg.IndexByteString", "internal/bytealg.IndexString", "internal/abi.NoEscape", "internal/bytealg.MakeNoZero"], unfollowed := true, recurses := true, named := ["unicode/utf8.first", "unicode/utf8.acceptRanges", "internal/bytealg.MaxLen", "internal/strconv.uint64pow10", "math/bits.deBruijn32tab", "math/bits.deBruijn64tab"], plainKeys := false, apart := false, laid := [("math/bits.deBruijn32tab", laid_math_bits_deBruijn32tab), ("math/bits.deBruijn64tab", laid_math_bits_deBruijn64tab), ("internal/strconv.uint64pow10", laid_internal_strconv_uint64pow10), ("unicode/utf8.acceptRanges", laid_unicode_utf8_acceptRanges), ("unicode/utf8.first", laid_unicode_utf8_first)], narrowed := true }
def ShiftWasUptoSaid : Prop := shiftWasUptoRow.holds Tryz.pinned (OpenSpec.upto shiftWasSpec)

/-- 'nacrelaw05.ShiftRuns', WHERE WHAT IT READS IS OF BULK AT MOST 1048576: true; the input reads as it did. -/
def shiftRunsUptoRow : OpenClaim := { program := "ytkpbdjpekjdhcaagreatdoor", sum := "1ff0200560f1adf86f7d52e712f3e8d83186aaf2b5e0a867594d9ee659875a54", func := "nacre/nacrelaw05.ShiftRuns", spec := "shiftRuns", inPlace := ["internal/bytealg.CountString", "internal/bytealg.IndexByteString", "internal/bytealg.IndexString", "internal/abi.NoEscape", "internal/bytealg.MakeNoZero"], unfollowed := true, recurses := true, named := ["unicode/utf8.first", "unicode/utf8.acceptRanges", "internal/bytealg.MaxLen", "internal/strconv.uint64pow10", "math/bits.deBruijn32tab", "math/bits.deBruijn64tab"], plainKeys := false, apart := false, laid := [("math/bits.deBruijn32tab", laid_math_bits_deBruijn32tab), ("math/bits.deBruijn64tab", laid_math_bits_deBruijn64tab), ("internal/strconv.uint64pow10", laid_internal_strconv_uint64pow10), ("unicode/utf8.acceptRanges", laid_unicode_utf8_acceptRanges), ("unicode/utf8.first", laid_unicode_utf8_first)], narrowed := true }
def ShiftRunsUptoSaid : Prop := shiftRunsUptoRow.holds Tryz.pinned (OpenSpec.upto shiftRunsSpec)

end Rows
end Go.Proofs.YtkpbdjpekjdhcaaGreatDoor
