/-
  NARROWER THAN 'FOR EVERY INPUT', by the rows' own cells (each row's printed sentence says how): DrillTurns: laid · DrillTurned: laid · DrillMatched: laid · DrillKnowns: laid · DrillSures: laid · DrillGauges: laid · DrillTogethers: laid · DrillProves: laid · DrillResets: laid · DrillMoved: laid · DrillMore: laid · DrillMatches: laid · DrillCoulds: laid · DrillGood: laid · DrillFirst: laid · DrillReached: laid · DrillRuns: laid · DrillTrue: laid · DrillFound: laid · DrillPrints: laid · DrillReads: laid · DrillSpoilt: laid.
  DERIVED. THE GIVEN ROWS OF THIS SEAT. 22 by the template 'for every input the law returns true; each argument reads behind the call as it read before'; 0 by the template 'total and deterministic' (their statements: YtlhcjccaimmhgaaGreatDoorTotals.lean).
  GIVEN WITH THE SEED: the statements are not yours to turn. If you find one false, say at which input.
  Laid BY PROGRAM, IN A SANDBOX (cutbox-rows.mjs): the forced cells as the released guide's own fill.sh prints them over the translation 98f0f2a04c80e3a3… (all of the seat's roots in one cut). By AI agents, Wed Nov 11 2026. No macro, syntax, notation, axiom, sorry.
-/
import Derived.Test.YtlhcjccaimmhgaaGreatDoorChecked
import GoSem.PinnedTables
import GoSem.Claim
import GoSem.ClaimJoined
import GoSem.ClaimMapViews
import Derived.JoinedTies
import Derived.KernelRfl
namespace Go.Proofs.YtlhcjccaimmhgaaGreatDoor
/- THE CELL 'sum', in the pinned program and in every row, IS THE sha256 OF THE DUMP (.gsa) THAT YtlhcjccaimmhgaaGreatDoorProg.lean LOADS. Nothing in Lean hashes anything: it is a label: what it is worth is what the hold of that sum in a sandbox is worth. -/
noncomputable def Tryz.pinned : Pinned := { name := "ytlhcjccaimmhgaagreatdoor", sum := "98f0f2a04c80e3a31acf5cb48b17b0d447e3272b074257d52be1ee4f8a603f50", checked := Tryz.checked }
namespace Rows
def none {H : Type} : Left H := { results := [], args := [] }

/- WHAT THE LISTED PACKAGE-LEVEL VARIABLES READ AS WHEN THE CALL BEGINS. Each datum BY PROGRAM (the guide's laid-datum.mjs) off the statement by which the dump's own 'gosem.cut.vars' lays the variable. In a bare row this is a premise. The card (YtlhcjccaimmhgaaGreatDoorCards.lean) ties it to the program's text. -/
def laid_math_bits_deBruijn32tab {H : Type} : DataW H := .agg [.lit (.int .u8 0), .lit (.int .u8 1), .lit (.int .u8 28), .lit (.int .u8 2), .lit (.int .u8 29), .lit (.int .u8 14), .lit (.int .u8 24), .lit (.int .u8 3), .lit (.int .u8 30), .lit (.int .u8 22), .lit (.int .u8 20), .lit (.int .u8 15), .lit (.int .u8 25), .lit (.int .u8 17), .lit (.int .u8 4), .lit (.int .u8 8), .lit (.int .u8 31), .lit (.int .u8 27), .lit (.int .u8 13), .lit (.int .u8 23), .lit (.int .u8 21), .lit (.int .u8 19), .lit (.int .u8 16), .lit (.int .u8 7), .lit (.int .u8 26), .lit (.int .u8 12), .lit (.int .u8 18), .lit (.int .u8 6), .lit (.int .u8 11), .lit (.int .u8 5), .lit (.int .u8 10), .lit (.int .u8 9)]
def laid_math_bits_deBruijn64tab {H : Type} : DataW H := .agg [.lit (.int .u8 0), .lit (.int .u8 1), .lit (.int .u8 56), .lit (.int .u8 2), .lit (.int .u8 57), .lit (.int .u8 49), .lit (.int .u8 28), .lit (.int .u8 3), .lit (.int .u8 61), .lit (.int .u8 58), .lit (.int .u8 42), .lit (.int .u8 50), .lit (.int .u8 38), .lit (.int .u8 29), .lit (.int .u8 17), .lit (.int .u8 4), .lit (.int .u8 62), .lit (.int .u8 47), .lit (.int .u8 59), .lit (.int .u8 36), .lit (.int .u8 45), .lit (.int .u8 43), .lit (.int .u8 51), .lit (.int .u8 22), .lit (.int .u8 53), .lit (.int .u8 39), .lit (.int .u8 33), .lit (.int .u8 30), .lit (.int .u8 24), .lit (.int .u8 18), .lit (.int .u8 12), .lit (.int .u8 5), .lit (.int .u8 63), .lit (.int .u8 55), .lit (.int .u8 48), .lit (.int .u8 27), .lit (.int .u8 60), .lit (.int .u8 41), .lit (.int .u8 37), .lit (.int .u8 16), .lit (.int .u8 46), .lit (.int .u8 35), .lit (.int .u8 44), .lit (.int .u8 21), .lit (.int .u8 52), .lit (.int .u8 32), .lit (.int .u8 23), .lit (.int .u8 11), .lit (.int .u8 54), .lit (.int .u8 26), .lit (.int .u8 40), .lit (.int .u8 15), .lit (.int .u8 34), .lit (.int .u8 20), .lit (.int .u8 31), .lit (.int .u8 10), .lit (.int .u8 25), .lit (.int .u8 14), .lit (.int .u8 19), .lit (.int .u8 9), .lit (.int .u8 13), .lit (.int .u8 8), .lit (.int .u8 7), .lit (.int .u8 6)]
def laid_internal_strconv_uint64pow10 {H : Type} : DataW H := .agg [.lit (.int .u64 1), .lit (.int .u64 10), .lit (.int .u64 100), .lit (.int .u64 1000), .lit (.int .u64 10000), .lit (.int .u64 100000), .lit (.int .u64 1000000), .lit (.int .u64 10000000), .lit (.int .u64 100000000), .lit (.int .u64 1000000000), .lit (.int .u64 10000000000), .lit (.int .u64 100000000000), .lit (.int .u64 1000000000000), .lit (.int .u64 10000000000000), .lit (.int .u64 100000000000000), .lit (.int .u64 1000000000000000), .lit (.int .u64 10000000000000000), .lit (.int .u64 100000000000000000), .lit (.int .u64 1000000000000000000), .lit (.int .u64 10000000000000000000)]
def laid_unicode_utf8_acceptRanges {H : Type} : DataW H := .agg [.agg [.lit (.int .u8 128), .lit (.int .u8 191)], .agg [.lit (.int .u8 160), .lit (.int .u8 191)], .agg [.lit (.int .u8 128), .lit (.int .u8 159)], .agg [.lit (.int .u8 144), .lit (.int .u8 191)], .agg [.lit (.int .u8 128), .lit (.int .u8 143)], .agg [.lit (.int .u8 0), .lit (.int .u8 0)], .agg [.lit (.int .u8 0), .lit (.int .u8 0)], .agg [.lit (.int .u8 0), .lit (.int .u8 0)], .agg [.lit (.int .u8 0), .lit (.int .u8 0)], .agg [.lit (.int .u8 0), .lit (.int .u8 0)], .agg [.lit (.int .u8 0), .lit (.int .u8 0)], .agg [.lit (.int .u8 0), .lit (.int .u8 0)], .agg [.lit (.int .u8 0), .lit (.int .u8 0)], .agg [.lit (.int .u8 0), .lit (.int .u8 0)], .agg [.lit (.int .u8 0), .lit (.int .u8 0)], .agg [.lit (.int .u8 0), .lit (.int .u8 0)]]
/-- One of Go's own tables, pinned by name: the form's constant. -/
def laid_unicode_utf8_first : DataW Unit := Go.Pinned.utf8First

/-- 'nacrelaw02.DrillTurns': WHATEVER THE INPUT: true; the input reads as it did. -/
def drillTurnsSpec : ChangeSpec := { name := "drillTurns", fn := fun _ => fun
  | [d1, d2] => { results := [.lit (.bool true)], args := [d1, d2] }
  | _ => none }
def drillTurnsRow : OpenClaim := { program := "ytlhcjccaimmhgaagreatdoor", sum := "98f0f2a04c80e3a31acf5cb48b17b0d447e3272b074257d52be1ee4f8a603f50", func := "nacre/nacrelaw02.DrillTurns", spec := "drillTurns", inPlace := ["internal/abi.NoEscape", "internal/bytealg.MakeNoZero"], unfollowed := true, recurses := true, named := ["internal/strconv.uint64pow10", "math/bits.deBruijn32tab", "math/bits.deBruijn64tab"], plainKeys := false, apart := false, laid := [("math/bits.deBruijn32tab", laid_math_bits_deBruijn32tab), ("math/bits.deBruijn64tab", laid_math_bits_deBruijn64tab), ("internal/strconv.uint64pow10", laid_internal_strconv_uint64pow10)] }
def DrillTurnsSaid : Prop := drillTurnsRow.holds Tryz.pinned (OpenSpec.ofChange drillTurnsSpec)

/-- ITS FALSE NEIGHBOUR: 'it returns false'. Refute it at one input. -/
def drillTurnsWrong : ChangeSpec := { name := "drillTurns", fn := fun _ => fun
  | [d1, d2] => { results := [.lit (.bool false)], args := [d1, d2] }
  | _ => none }
def DrillTurnsWrongFalsely : Prop := drillTurnsRow.holds Tryz.pinned (OpenSpec.ofChange drillTurnsWrong)

/-- 'nacrelaw02.DrillTurned': WHATEVER THE INPUT: true; the input reads as it did. -/
def drillTurnedSpec : ChangeSpec := { name := "drillTurned", fn := fun _ => fun
  | [d1, d2, d3] => { results := [.lit (.bool true)], args := [d1, d2, d3] }
  | _ => none }
def drillTurnedRow : OpenClaim := { program := "ytlhcjccaimmhgaagreatdoor", sum := "98f0f2a04c80e3a31acf5cb48b17b0d447e3272b074257d52be1ee4f8a603f50", func := "nacre/nacrelaw02.DrillTurned", spec := "drillTurned", inPlace := ["internal/abi.NoEscape", "internal/bytealg.MakeNoZero"], unfollowed := true, recurses := true, named := ["internal/strconv.uint64pow10", "math/bits.deBruijn32tab", "math/bits.deBruijn64tab"], plainKeys := false, apart := false, laid := [("math/bits.deBruijn32tab", laid_math_bits_deBruijn32tab), ("math/bits.deBruijn64tab", laid_math_bits_deBruijn64tab), ("internal/strconv.uint64pow10", laid_internal_strconv_uint64pow10)] }
def DrillTurnedSaid : Prop := drillTurnedRow.holds Tryz.pinned (OpenSpec.ofChange drillTurnedSpec)

/-- ITS FALSE NEIGHBOUR: 'it returns false'. Refute it at one input. -/
def drillTurnedWrong : ChangeSpec := { name := "drillTurned", fn := fun _ => fun
  | [d1, d2, d3] => { results := [.lit (.bool false)], args := [d1, d2, d3] }
  | _ => none }
def DrillTurnedWrongFalsely : Prop := drillTurnedRow.holds Tryz.pinned (OpenSpec.ofChange drillTurnedWrong)

/-- 'nacrelaw02.DrillMatched': WHATEVER THE INPUT: true; the input reads as it did. -/
def drillMatchedSpec : ChangeSpec := { name := "drillMatched", fn := fun _ => fun
  | [d1, d2, d3, d4] => { results := [.lit (.bool true)], args := [d1, d2, d3, d4] }
  | _ => none }
def drillMatchedRow : OpenClaim := { program := "ytlhcjccaimmhgaagreatdoor", sum := "98f0f2a04c80e3a31acf5cb48b17b0d447e3272b074257d52be1ee4f8a603f50", func := "nacre/nacrelaw02.DrillMatched", spec := "drillMatched", inPlace := ["internal/abi.NoEscape", "internal/bytealg.MakeNoZero"], unfollowed := true, recurses := true, named := ["internal/strconv.uint64pow10", "math/bits.deBruijn32tab", "math/bits.deBruijn64tab"], plainKeys := false, apart := false, laid := [("math/bits.deBruijn32tab", laid_math_bits_deBruijn32tab), ("math/bits.deBruijn64tab", laid_math_bits_deBruijn64tab), ("internal/strconv.uint64pow10", laid_internal_strconv_uint64pow10)] }
def DrillMatchedSaid : Prop := drillMatchedRow.holds Tryz.pinned (OpenSpec.ofChange drillMatchedSpec)

/-- ITS FALSE NEIGHBOUR: 'it returns false'. Refute it at one input. -/
def drillMatchedWrong : ChangeSpec := { name := "drillMatched", fn := fun _ => fun
  | [d1, d2, d3, d4] => { results := [.lit (.bool false)], args := [d1, d2, d3, d4] }
  | _ => none }
def DrillMatchedWrongFalsely : Prop := drillMatchedRow.holds Tryz.pinned (OpenSpec.ofChange drillMatchedWrong)

/-- 'nacrelaw02.DrillKnowns': WHATEVER THE INPUT: true; the input reads as it did. -/
def drillKnownsSpec : ChangeSpec := { name := "drillKnowns", fn := fun _ => fun
  | [d1, d2] => { results := [.lit (.bool true)], args := [d1, d2] }
  | _ => none }
def drillKnownsRow : OpenClaim := { program := "ytlhcjccaimmhgaagreatdoor", sum := "98f0f2a04c80e3a31acf5cb48b17b0d447e3272b074257d52be1ee4f8a603f50", func := "nacre/nacrelaw02.DrillKnowns", spec := "drillKnowns", inPlace := ["internal/abi.NoEscape", "internal/bytealg.MakeNoZero"], unfollowed := true, recurses := true, named := ["internal/strconv.uint64pow10", "math/bits.deBruijn32tab", "math/bits.deBruijn64tab"], plainKeys := false, apart := false, laid := [("math/bits.deBruijn32tab", laid_math_bits_deBruijn32tab), ("math/bits.deBruijn64tab", laid_math_bits_deBruijn64tab), ("internal/strconv.uint64pow10", laid_internal_strconv_uint64pow10)] }
def DrillKnownsSaid : Prop := drillKnownsRow.holds Tryz.pinned (OpenSpec.ofChange drillKnownsSpec)

/-- ITS FALSE NEIGHBOUR: 'it returns false'. Refute it at one input. -/
def drillKnownsWrong : ChangeSpec := { name := "drillKnowns", fn := fun _ => fun
  | [d1, d2] => { results := [.lit (.bool false)], args := [d1, d2] }
  | _ => none }
def DrillKnownsWrongFalsely : Prop := drillKnownsRow.holds Tryz.pinned (OpenSpec.ofChange drillKnownsWrong)

/-- 'nacrelaw02.DrillSures': WHATEVER THE INPUT: true; the input reads as it did. -/
def drillSuresSpec : ChangeSpec := { name := "drillSures", fn := fun _ => fun
  | [d1, d2, d3] => { results := [.lit (.bool true)], args := [d1, d2, d3] }
  | _ => none }
def drillSuresRow : OpenClaim := { program := "ytlhcjccaimmhgaagreatdoor", sum := "98f0f2a04c80e3a31acf5cb48b17b0d447e3272b074257d52be1ee4f8a603f50", func := "nacre/nacrelaw02.DrillSures", spec := "drillSures", inPlace := ["internal/abi.NoEscape", "internal/bytealg.MakeNoZero"], unfollowed := true, recurses := true, named := ["internal/strconv.uint64pow10", "math/bits.deBruijn32tab", "math/bits.deBruijn64tab"], plainKeys := false, apart := false, laid := [("math/bits.deBruijn32tab", laid_math_bits_deBruijn32tab), ("math/bits.deBruijn64tab", laid_math_bits_deBruijn64tab), ("internal/strconv.uint64pow10", laid_internal_strconv_uint64pow10)] }
def DrillSuresSaid : Prop := drillSuresRow.holds Tryz.pinned (OpenSpec.ofChange drillSuresSpec)

/-- ITS FALSE NEIGHBOUR: 'it returns false'. Refute it at one input. -/
def drillSuresWrong : ChangeSpec := { name := "drillSures", fn := fun _ => fun
  | [d1, d2, d3] => { results := [.lit (.bool false)], args := [d1, d2, d3] }
  | _ => none }
def DrillSuresWrongFalsely : Prop := drillSuresRow.holds Tryz.pinned (OpenSpec.ofChange drillSuresWrong)

/-- 'nacrelaw02.DrillGauges': WHATEVER THE INPUT: true; the input reads as it did. -/
def drillGaugesSpec : ChangeSpec := { name := "drillGauges", fn := fun _ => fun
  | [d1, d2] => { results := [.lit (.bool true)], args := [d1, d2] }
  | _ => none }
def drillGaugesRow : OpenClaim := { program := "ytlhcjccaimmhgaagreatdoor", sum := "98f0f2a04c80e3a31acf5cb48b17b0d447e3272b074257d52be1ee4f8a603f50", func := "nacre/nacrelaw02.DrillGauges", spec := "drillGauges", inPlace := ["internal/abi.NoEscape", "internal/bytealg.MakeNoZero"], unfollowed := true, recurses := true, named := ["internal/strconv.uint64pow10", "math/bits.deBruijn32tab", "math/bits.deBruijn64tab"], plainKeys := false, apart := false, laid := [("math/bits.deBruijn32tab", laid_math_bits_deBruijn32tab), ("math/bits.deBruijn64tab", laid_math_bits_deBruijn64tab), ("internal/strconv.uint64pow10", laid_internal_strconv_uint64pow10)] }
def DrillGaugesSaid : Prop := drillGaugesRow.holds Tryz.pinned (OpenSpec.ofChange drillGaugesSpec)

/-- ITS FALSE NEIGHBOUR: 'it returns false'. Refute it at one input. -/
def drillGaugesWrong : ChangeSpec := { name := "drillGauges", fn := fun _ => fun
  | [d1, d2] => { results := [.lit (.bool false)], args := [d1, d2] }
  | _ => none }
def DrillGaugesWrongFalsely : Prop := drillGaugesRow.holds Tryz.pinned (OpenSpec.ofChange drillGaugesWrong)

/-- 'nacrelaw02.DrillTogethers': WHATEVER THE INPUT: true; the input reads as it did. -/
def drillTogethersSpec : ChangeSpec := { name := "drillTogethers", fn := fun _ => fun
  | [d1, d2] => { results := [.lit (.bool true)], args := [d1, d2] }
  | _ => none }
def drillTogethersRow : OpenClaim := { program := "ytlhcjccaimmhgaagreatdoor", sum := "98f0f2a04c80e3a31acf5cb48b17b0d447e3272b074257d52be1ee4f8a603f50", func := "nacre/nacrelaw02.DrillTogethers", spec := "drillTogethers", inPlace := ["internal/abi.NoEscape", "internal/bytealg.MakeNoZero"], unfollowed := true, recurses := true, named := ["internal/strconv.uint64pow10", "math/bits.deBruijn32tab", "math/bits.deBruijn64tab"], plainKeys := false, apart := false, laid := [("math/bits.deBruijn32tab", laid_math_bits_deBruijn32tab), ("math/bits.deBruijn64tab", laid_math_bits_deBruijn64tab), ("internal/strconv.uint64pow10", laid_internal_strconv_uint64pow10)] }
def DrillTogethersSaid : Prop := drillTogethersRow.holds Tryz.pinned (OpenSpec.ofChange drillTogethersSpec)

/-- ITS FALSE NEIGHBOUR: 'it returns false'. Refute it at one input. -/
def drillTogethersWrong : ChangeSpec := { name := "drillTogethers", fn := fun _ => fun
  | [d1, d2] => { results := [.lit (.bool false)], args := [d1, d2] }
  | _ => none }
def DrillTogethersWrongFalsely : Prop := drillTogethersRow.holds Tryz.pinned (OpenSpec.ofChange drillTogethersWrong)

/-- 'nacrelaw02.DrillProves': WHATEVER THE INPUT: true; the input reads as it did. -/
def drillProvesSpec : ChangeSpec := { name := "drillProves", fn := fun _ => fun
  | [d1, d2, d3, d4] => { results := [.lit (.bool true)], args := [d1, d2, d3, d4] }
  | _ => none }
def drillProvesRow : OpenClaim := { program := "ytlhcjccaimmhgaagreatdoor", sum := "98f0f2a04c80e3a31acf5cb48b17b0d447e3272b074257d52be1ee4f8a603f50", func := "nacre/nacrelaw02.DrillProves", spec := "drillProves", inPlace := ["internal/abi.NoEscape", "internal/bytealg.MakeNoZero"], unfollowed := true, recurses := true, named := ["internal/strconv.uint64pow10", "math/bits.deBruijn32tab", "math/bits.deBruijn64tab"], plainKeys := false, apart := false, laid := [("math/bits.deBruijn32tab", laid_math_bits_deBruijn32tab), ("math/bits.deBruijn64tab", laid_math_bits_deBruijn64tab), ("internal/strconv.uint64pow10", laid_internal_strconv_uint64pow10)] }
def DrillProvesSaid : Prop := drillProvesRow.holds Tryz.pinned (OpenSpec.ofChange drillProvesSpec)

/-- ITS FALSE NEIGHBOUR: 'it returns false'. Refute it at one input. -/
def drillProvesWrong : ChangeSpec := { name := "drillProves", fn := fun _ => fun
  | [d1, d2, d3, d4] => { results := [.lit (.bool false)], args := [d1, d2, d3, d4] }
  | _ => none }
def DrillProvesWrongFalsely : Prop := drillProvesRow.holds Tryz.pinned (OpenSpec.ofChange drillProvesWrong)

/-- 'nacrelaw02.DrillResets': WHATEVER THE INPUT: true; the input reads as it did. -/
def drillResetsSpec : ChangeSpec := { name := "drillResets", fn := fun _ => fun
  | [d1, d2, d3] => { results := [.lit (.bool true)], args := [d1, d2, d3] }
  | _ => none }
def drillResetsRow : OpenClaim := { program := "ytlhcjccaimmhgaagreatdoor", sum := "98f0f2a04c80e3a31acf5cb48b17b0d447e3272b074257d52be1ee4f8a603f50", func := "nacre/nacrelaw02.DrillResets", spec := "drillResets", inPlace := ["internal/abi.NoEscape", "internal/bytealg.MakeNoZero"], unfollowed := true, recurses := true, named := ["internal/strconv.uint64pow10", "math/bits.deBruijn32tab", "math/bits.deBruijn64tab"], plainKeys := false, apart := false, laid := [("math/bits.deBruijn32tab", laid_math_bits_deBruijn32tab), ("math/bits.deBruijn64tab", laid_math_bits_deBruijn64tab), ("internal/strconv.uint64pow10", laid_internal_strconv_uint64pow10)] }
def DrillResetsSaid : Prop := drillResetsRow.holds Tryz.pinned (OpenSpec.ofChange drillResetsSpec)

/-- ITS FALSE NEIGHBOUR: 'it returns false'. Refute it at one input. -/
def drillResetsWrong : ChangeSpec := { name := "drillResets", fn := fun _ => fun
  | [d1, d2, d3] => { results := [.lit (.bool false)], args := [d1, d2, d3] }
  | _ => none }
def DrillResetsWrongFalsely : Prop := drillResetsRow.holds Tryz.pinned (OpenSpec.ofChange drillResetsWrong)

/-- 'nacrelaw02.DrillMoved': WHATEVER THE INPUT: true; the input reads as it did. -/
def drillMovedSpec : ChangeSpec := { name := "drillMoved", fn := fun _ => fun
  | [d1, d2, d3, d4, d5, d6] => { results := [.lit (.bool true)], args := [d1, d2, d3, d4, d5, d6] }
  | _ => none }
def drillMovedRow : OpenClaim := { program := "ytlhcjccaimmhgaagreatdoor", sum := "98f0f2a04c80e3a31acf5cb48b17b0d447e3272b074257d52be1ee4f8a603f50", func := "nacre/nacrelaw02.DrillMoved", spec := "drillMoved", inPlace := ["internal/abi.NoEscape", "internal/bytealg.MakeNoZero"], unfollowed := true, recurses := true, named := ["internal/strconv.uint64pow10", "math/bits.deBruijn32tab", "math/bits.deBruijn64tab"], plainKeys := false, apart := false, laid := [("math/bits.deBruijn32tab", laid_math_bits_deBruijn32tab), ("math/bits.deBruijn64tab", laid_math_bits_deBruijn64tab), ("internal/strconv.uint64pow10", laid_internal_strconv_uint64pow10)] }
def DrillMovedSaid : Prop := drillMovedRow.holds Tryz.pinned (OpenSpec.ofChange drillMovedSpec)

/-- ITS FALSE NEIGHBOUR: 'it returns false'. Refute it at one input. -/
def drillMovedWrong : ChangeSpec := { name := "drillMoved", fn := fun _ => fun
  | [d1, d2, d3, d4, d5, d6] => { results := [.lit (.bool false)], args := [d1, d2, d3, d4, d5, d6] }
  | _ => none }
def DrillMovedWrongFalsely : Prop := drillMovedRow.holds Tryz.pinned (OpenSpec.ofChange drillMovedWrong)

/-- 'nacrelaw02.DrillMore': WHATEVER THE INPUT: true; the input reads as it did. -/
def drillMoreSpec : ChangeSpec := { name := "drillMore", fn := fun _ => fun
  | [d1, d2, d3, d4, d5, d6, d7, d8] => { results := [.lit (.bool true)], args := [d1, d2, d3, d4, d5, d6, d7, d8] }
  | _ => none }
def drillMoreRow : OpenClaim := { program := "ytlhcjccaimmhgaagreatdoor", sum := "98f0f2a04c80e3a31acf5cb48b17b0d447e3272b074257d52be1ee4f8a603f50", func := "nacre/nacrelaw02.DrillMore", spec := "drillMore", inPlace := ["internal/abi.NoEscape", "internal/bytealg.MakeNoZero"], unfollowed := true, recurses := true, named := ["internal/strconv.uint64pow10", "math/bits.deBruijn32tab", "math/bits.deBruijn64tab"], plainKeys := false, apart := false, laid := [("math/bits.deBruijn32tab", laid_math_bits_deBruijn32tab), ("math/bits.deBruijn64tab", laid_math_bits_deBruijn64tab), ("internal/strconv.uint64pow10", laid_internal_strconv_uint64pow10)] }
def DrillMoreSaid : Prop := drillMoreRow.holds Tryz.pinned (OpenSpec.ofChange drillMoreSpec)

/-- ITS FALSE NEIGHBOUR: 'it returns false'. Refute it at one input. -/
def drillMoreWrong : ChangeSpec := { name := "drillMore", fn := fun _ => fun
  | [d1, d2, d3, d4, d5, d6, d7, d8] => { results := [.lit (.bool false)], args := [d1, d2, d3, d4, d5, d6, d7, d8] }
  | _ => none }
def DrillMoreWrongFalsely : Prop := drillMoreRow.holds Tryz.pinned (OpenSpec.ofChange drillMoreWrong)

/-- 'nacrelaw02.DrillMatches': WHATEVER THE INPUT: true; the input reads as it did. -/
def drillMatchesSpec : ChangeSpec := { name := "drillMatches", fn := fun _ => fun
  | [d1, d2] => { results := [.lit (.bool true)], args := [d1, d2] }
  | _ => none }
def drillMatchesRow : OpenClaim := { program := "ytlhcjccaimmhgaagreatdoor", sum := "98f0f2a04c80e3a31acf5cb48b17b0d447e3272b074257d52be1ee4f8a603f50", func := "nacre/nacrelaw02.DrillMatches", spec := "drillMatches", inPlace := ["internal/abi.NoEscape", "internal/bytealg.MakeNoZero"], unfollowed := true, recurses := true, named := ["internal/strconv.uint64pow10", "math/bits.deBruijn32tab", "math/bits.deBruijn64tab"], plainKeys := false, apart := false, laid := [("math/bits.deBruijn32tab", laid_math_bits_deBruijn32tab), ("math/bits.deBruijn64tab", laid_math_bits_deBruijn64tab), ("internal/strconv.uint64pow10", laid_internal_strconv_uint64pow10)] }
def DrillMatchesSaid : Prop := drillMatchesRow.holds Tryz.pinned (OpenSpec.ofChange drillMatchesSpec)

/-- ITS FALSE NEIGHBOUR: 'it returns false'. Refute it at one input. -/
def drillMatchesWrong : ChangeSpec := { name := "drillMatches", fn := fun _ => fun
  | [d1, d2] => { results := [.lit (.bool false)], args := [d1, d2] }
  | _ => none }
def DrillMatchesWrongFalsely : Prop := drillMatchesRow.holds Tryz.pinned (OpenSpec.ofChange drillMatchesWrong)

/-- 'nacrelaw02.DrillCoulds': WHATEVER THE INPUT: true; the input reads as it did. -/
def drillCouldsSpec : ChangeSpec := { name := "drillCoulds", fn := fun _ => fun
  | [d1, d2] => { results := [.lit (.bool true)], args := [d1, d2] }
  | _ => none }
def drillCouldsRow : OpenClaim := { program := "ytlhcjccaimmhgaagreatdoor", sum := "98f0f2a04c80e3a31acf5cb48b17b0d447e3272b074257d52be1ee4f8a603f50", func := "nacre/nacrelaw02.DrillCoulds", spec := "drillCoulds", inPlace := ["internal/abi.NoEscape", "internal/bytealg.MakeNoZero"], unfollowed := true, recurses := true, named := ["internal/strconv.uint64pow10", "math/bits.deBruijn32tab", "math/bits.deBruijn64tab"], plainKeys := false, apart := false, laid := [("math/bits.deBruijn32tab", laid_math_bits_deBruijn32tab), ("math/bits.deBruijn64tab", laid_math_bits_deBruijn64tab), ("internal/strconv.uint64pow10", laid_internal_strconv_uint64pow10)] }
def DrillCouldsSaid : Prop := drillCouldsRow.holds Tryz.pinned (OpenSpec.ofChange drillCouldsSpec)

/-- ITS FALSE NEIGHBOUR: 'it returns false'. Refute it at one input. -/
def drillCouldsWrong : ChangeSpec := { name := "drillCoulds", fn := fun _ => fun
  | [d1, d2] => { results := [.lit (.bool false)], args := [d1, d2] }
  | _ => none }
def DrillCouldsWrongFalsely : Prop := drillCouldsRow.holds Tryz.pinned (OpenSpec.ofChange drillCouldsWrong)

/-- 'nacrelaw02.DrillGood': WHATEVER THE INPUT: true; the input reads as it did. -/
def drillGoodSpec : ChangeSpec := { name := "drillGood", fn := fun _ => fun
  | [d1, d2, d3, d4] => { results := [.lit (.bool true)], args := [d1, d2, d3, d4] }
  | _ => none }
def drillGoodRow : OpenClaim := { program := "ytlhcjccaimmhgaagreatdoor", sum := "98f0f2a04c80e3a31acf5cb48b17b0d447e3272b074257d52be1ee4f8a603f50", func := "nacre/nacrelaw02.DrillGood", spec := "drillGood", inPlace := ["internal/abi.NoEscape", "internal/bytealg.MakeNoZero"], unfollowed := true, recurses := true, named := ["internal/strconv.uint64pow10", "math/bits.deBruijn32tab", "math/bits.deBruijn64tab"], plainKeys := false, apart := false, laid := [("math/bits.deBruijn32tab", laid_math_bits_deBruijn32tab), ("math/bits.deBruijn64tab", laid_math_bits_deBruijn64tab), ("internal/strconv.uint64pow10", laid_internal_strconv_uint64pow10)] }
def DrillGoodSaid : Prop := drillGoodRow.holds Tryz.pinned (OpenSpec.ofChange drillGoodSpec)

/-- ITS FALSE NEIGHBOUR: 'it returns false'. Refute it at one input. -/
def drillGoodWrong : ChangeSpec := { name := "drillGood", fn := fun _ => fun
  | [d1, d2, d3, d4] => { results := [.lit (.bool false)], args := [d1, d2, d3, d4] }
  | _ => none }
def DrillGoodWrongFalsely : Prop := drillGoodRow.holds Tryz.pinned (OpenSpec.ofChange drillGoodWrong)

/-- 'nacrelaw02.DrillFirst': WHATEVER THE INPUT: true; the input reads as it did. -/
def drillFirstSpec : ChangeSpec := { name := "drillFirst", fn := fun _ => fun
  | [d1, d2, d3, d4] => { results := [.lit (.bool true)], args := [d1, d2, d3, d4] }
  | _ => none }
def drillFirstRow : OpenClaim := { program := "ytlhcjccaimmhgaagreatdoor", sum := "98f0f2a04c80e3a31acf5cb48b17b0d447e3272b074257d52be1ee4f8a603f50", func := "nacre/nacrelaw02.DrillFirst", spec := "drillFirst", inPlace := ["internal/abi.NoEscape", "internal/bytealg.MakeNoZero"], unfollowed := true, recurses := true, named := ["internal/strconv.uint64pow10", "math/bits.deBruijn32tab", "math/bits.deBruijn64tab"], plainKeys := false, apart := false, laid := [("math/bits.deBruijn32tab", laid_math_bits_deBruijn32tab), ("math/bits.deBruijn64tab", laid_math_bits_deBruijn64tab), ("internal/strconv.uint64pow10", laid_internal_strconv_uint64pow10)] }
def DrillFirstSaid : Prop := drillFirstRow.holds Tryz.pinned (OpenSpec.ofChange drillFirstSpec)

/-- ITS FALSE NEIGHBOUR: 'it returns false'. Refute it at one input. -/
def drillFirstWrong : ChangeSpec := { name := "drillFirst", fn := fun _ => fun
  | [d1, d2, d3, d4] => { results := [.lit (.bool false)], args := [d1, d2, d3, d4] }
  | _ => none }
def DrillFirstWrongFalsely : Prop := drillFirstRow.holds Tryz.pinned (OpenSpec.ofChange drillFirstWrong)

/-- 'nacrelaw02.DrillReached': WHATEVER THE INPUT: true; the input reads as it did. -/
def drillReachedSpec : ChangeSpec := { name := "drillReached", fn := fun _ => fun
  | [d] => { results := [.lit (.bool true)], args := [d] }
  | _ => none }
def drillReachedRow : OpenClaim := { program := "ytlhcjccaimmhgaagreatdoor", sum := "98f0f2a04c80e3a31acf5cb48b17b0d447e3272b074257d52be1ee4f8a603f50", func := "nacre/nacrelaw02.DrillReached", spec := "drillReached", inPlace := ["internal/abi.NoEscape", "internal/bytealg.MakeNoZero"], unfollowed := true, recurses := true, named := ["internal/strconv.uint64pow10", "math/bits.deBruijn32tab", "math/bits.deBruijn64tab"], plainKeys := false, apart := false, laid := [("math/bits.deBruijn32tab", laid_math_bits_deBruijn32tab), ("math/bits.deBruijn64tab", laid_math_bits_deBruijn64tab), ("internal/strconv.uint64pow10", laid_internal_strconv_uint64pow10)] }
def DrillReachedSaid : Prop := drillReachedRow.holds Tryz.pinned (OpenSpec.ofChange drillReachedSpec)

/-- ITS FALSE NEIGHBOUR: 'it returns false'. Refute it at one input. -/
def drillReachedWrong : ChangeSpec := { name := "drillReached", fn := fun _ => fun
  | [d] => { results := [.lit (.bool false)], args := [d] }
  | _ => none }
def DrillReachedWrongFalsely : Prop := drillReachedRow.holds Tryz.pinned (OpenSpec.ofChange drillReachedWrong)

/-- 'nacrelaw02.DrillRuns': WHATEVER THE INPUT: true; the input reads as it did. -/
def drillRunsSpec : ChangeSpec := { name := "drillRuns", fn := fun _ => fun
  | [d1, d2, d3] => { results := [.lit (.bool true)], args := [d1, d2, d3] }
  | _ => none }
def drillRunsRow : OpenClaim := { program := "ytlhcjccaimmhgaagreatdoor", sum := "98f0f2a04c80e3a31acf5cb48b17b0d447e3272b074257d52be1ee4f8a603f50", func := "nacre/nacrelaw02.DrillRuns", spec := "drillRuns", inPlace := ["internal/abi.NoEscape", "internal/bytealg.MakeNoZero"], unfollowed := true, recurses := true, named := ["internal/strconv.uint64pow10", "math/bits.deBruijn32tab", "math/bits.deBruijn64tab"], plainKeys := false, apart := false, laid := [("math/bits.deBruijn32tab", laid_math_bits_deBruijn32tab), ("math/bits.deBruijn64tab", laid_math_bits_deBruijn64tab), ("internal/strconv.uint64pow10", laid_internal_strconv_uint64pow10)] }
def DrillRunsSaid : Prop := drillRunsRow.holds Tryz.pinned (OpenSpec.ofChange drillRunsSpec)

/-- ITS FALSE NEIGHBOUR: 'it returns false'. Refute it at one input. -/
def drillRunsWrong : ChangeSpec := { name := "drillRuns", fn := fun _ => fun
  | [d1, d2, d3] => { results := [.lit (.bool false)], args := [d1, d2, d3] }
  | _ => none }
def DrillRunsWrongFalsely : Prop := drillRunsRow.holds Tryz.pinned (OpenSpec.ofChange drillRunsWrong)

/-- 'nacrelaw02.DrillTrue': WHATEVER THE INPUT: true; the input reads as it did. -/
def drillTrueSpec : ChangeSpec := { name := "drillTrue", fn := fun _ => fun
  | [d1, d2, d3] => { results := [.lit (.bool true)], args := [d1, d2, d3] }
  | _ => none }
def drillTrueRow : OpenClaim := { program := "ytlhcjccaimmhgaagreatdoor", sum := "98f0f2a04c80e3a31acf5cb48b17b0d447e3272b074257d52be1ee4f8a603f50", func := "nacre/nacrelaw02.DrillTrue", spec := "drillTrue", inPlace := ["internal/abi.NoEscape", "internal/bytealg.MakeNoZero"], unfollowed := true, recurses := true, named := ["internal/strconv.uint64pow10", "math/bits.deBruijn32tab", "math/bits.deBruijn64tab"], plainKeys := false, apart := false, laid := [("math/bits.deBruijn32tab", laid_math_bits_deBruijn32tab), ("math/bits.deBruijn64tab", laid_math_bits_deBruijn64tab), ("internal/strconv.uint64pow10", laid_internal_strconv_uint64pow10)] }
def DrillTrueSaid : Prop := drillTrueRow.holds Tryz.pinned (OpenSpec.ofChange drillTrueSpec)

/-- ITS FALSE NEIGHBOUR: 'it returns false'. Refute it at one input. -/
def drillTrueWrong : ChangeSpec := { name := "drillTrue", fn := fun _ => fun
  | [d1, d2, d3] => { results := [.lit (.bool false)], args := [d1, d2, d3] }
  | _ => none }
def DrillTrueWrongFalsely : Prop := drillTrueRow.holds Tryz.pinned (OpenSpec.ofChange drillTrueWrong)

/-- 'nacrelaw02.DrillFound': WHATEVER THE INPUT: true; the input reads as it did. -/
def drillFoundSpec : ChangeSpec := { name := "drillFound", fn := fun _ => fun
  | [d1, d2, d3, d4, d5, d6, d7, d8] => { results := [.lit (.bool true)], args := [d1, d2, d3, d4, d5, d6, d7, d8] }
  | _ => none }
def drillFoundRow : OpenClaim := { program := "ytlhcjccaimmhgaagreatdoor", sum := "98f0f2a04c80e3a31acf5cb48b17b0d447e3272b074257d52be1ee4f8a603f50", func := "nacre/nacrelaw02.DrillFound", spec := "drillFound", inPlace := ["internal/abi.NoEscape", "internal/bytealg.MakeNoZero"], unfollowed := true, recurses := true, named := ["internal/strconv.uint64pow10", "math/bits.deBruijn32tab", "math/bits.deBruijn64tab"], plainKeys := false, apart := false, laid := [("math/bits.deBruijn32tab", laid_math_bits_deBruijn32tab), ("math/bits.deBruijn64tab", laid_math_bits_deBruijn64tab), ("internal/strconv.uint64pow10", laid_internal_strconv_uint64pow10)] }
def DrillFoundSaid : Prop := drillFoundRow.holds Tryz.pinned (OpenSpec.ofChange drillFoundSpec)

/-- ITS FALSE NEIGHBOUR: 'it returns false'. Refute it at one input. -/
def drillFoundWrong : ChangeSpec := { name := "drillFound", fn := fun _ => fun
  | [d1, d2, d3, d4, d5, d6, d7, d8] => { results := [.lit (.bool false)], args := [d1, d2, d3, d4, d5, d6, d7, d8] }
  | _ => none }
def DrillFoundWrongFalsely : Prop := drillFoundRow.holds Tryz.pinned (OpenSpec.ofChange drillFoundWrong)

/-- 'nacrelaw02.DrillPrints': WHATEVER THE INPUT: true; the input reads as it did. -/
def drillPrintsSpec : ChangeSpec := { name := "drillPrints", fn := fun _ => fun
  | [d] => { results := [.lit (.bool true)], args := [d] }
  | _ => none }
def drillPrintsRow : OpenClaim := { program := "ytlhcjccaimmhgaagreatdoor", sum := "98f0f2a04c80e3a31acf5cb48b17b0d447e3272b074257d52be1ee4f8a603f50", func := "nacre/nacrelaw02.DrillPrints", spec := "drillPrints", inPlace := ["internal/abi.NoEscape", "internal/bytealg.MakeNoZero", "internal/bytealg.CountString", "internal/bytealg.IndexByteString", "internal/bytealg.IndexString"], unfollowed := true, recurses := true, named := ["internal/strconv.uint64pow10", "math/bits.deBruijn32tab", "math/bits.deBruijn64tab", "unicode/utf8.first", "unicode/utf8.acceptRanges", "internal/bytealg.MaxLen"], plainKeys := false, apart := false, laid := [("math/bits.deBruijn32tab", laid_math_bits_deBruijn32tab), ("math/bits.deBruijn64tab", laid_math_bits_deBruijn64tab), ("internal/strconv.uint64pow10", laid_internal_strconv_uint64pow10), ("unicode/utf8.acceptRanges", laid_unicode_utf8_acceptRanges), ("unicode/utf8.first", laid_unicode_utf8_first)] }
def DrillPrintsSaid : Prop := drillPrintsRow.holds Tryz.pinned (OpenSpec.ofChange drillPrintsSpec)

/-- ITS FALSE NEIGHBOUR: 'it returns false'. Refute it at one input. -/
def drillPrintsWrong : ChangeSpec := { name := "drillPrints", fn := fun _ => fun
  | [d] => { results := [.lit (.bool false)], args := [d] }
  | _ => none }
def DrillPrintsWrongFalsely : Prop := drillPrintsRow.holds Tryz.pinned (OpenSpec.ofChange drillPrintsWrong)

/-- 'nacrelaw02.DrillReads': WHATEVER THE INPUT: true; the input reads as it did. -/
def drillReadsSpec : ChangeSpec := { name := "drillReads", fn := fun _ => fun
  | [d] => { results := [.lit (.bool true)], args := [d] }
  | _ => none }
def drillReadsRow : OpenClaim := { program := "ytlhcjccaimmhgaagreatdoor", sum := "98f0f2a04c80e3a31acf5cb48b17b0d447e3272b074257d52be1ee4f8a603f50", func := "nacre/nacrelaw02.DrillReads", spec := "drillReads", inPlace := ["internal/abi.NoEscape", "internal/bytealg.MakeNoZero", "internal/bytealg.CountString", "internal/bytealg.IndexByteString", "internal/bytealg.IndexString"], unfollowed := true, recurses := true, named := ["internal/strconv.uint64pow10", "math/bits.deBruijn32tab", "math/bits.deBruijn64tab", "unicode/utf8.first", "unicode/utf8.acceptRanges", "internal/bytealg.MaxLen"], plainKeys := false, apart := false, laid := [("math/bits.deBruijn32tab", laid_math_bits_deBruijn32tab), ("math/bits.deBruijn64tab", laid_math_bits_deBruijn64tab), ("internal/strconv.uint64pow10", laid_internal_strconv_uint64pow10), ("unicode/utf8.acceptRanges", laid_unicode_utf8_acceptRanges), ("unicode/utf8.first", laid_unicode_utf8_first)] }
def DrillReadsSaid : Prop := drillReadsRow.holds Tryz.pinned (OpenSpec.ofChange drillReadsSpec)

/-- ITS FALSE NEIGHBOUR: 'it returns false'. Refute it at one input. -/
def drillReadsWrong : ChangeSpec := { name := "drillReads", fn := fun _ => fun
  | [d] => { results := [.lit (.bool false)], args := [d] }
  | _ => none }
def DrillReadsWrongFalsely : Prop := drillReadsRow.holds Tryz.pinned (OpenSpec.ofChange drillReadsWrong)

/-- 'nacrelaw02.DrillSpoilt': WHATEVER THE INPUT: true; the input reads as it did. -/
def drillSpoiltSpec : ChangeSpec := { name := "drillSpoilt", fn := fun _ => fun
  | [d1, d2, d3] => { results := [.lit (.bool true)], args := [d1, d2, d3] }
  | _ => none }
def drillSpoiltRow : OpenClaim := { program := "ytlhcjccaimmhgaagreatdoor", sum := "98f0f2a04c80e3a31acf5cb48b17b0d447e3272b074257d52be1ee4f8a603f50", func := "nacre/nacrelaw02.DrillSpoilt", spec := "drillSpoilt", inPlace := ["internal/abi.NoEscape", "internal/bytealg.MakeNoZero", "internal/bytealg.CountString", "internal/bytealg.IndexByteString", "internal/bytealg.IndexString"], unfollowed := true, recurses := true, named := ["internal/strconv.uint64pow10", "math/bits.deBruijn32tab", "math/bits.deBruijn64tab", "unicode/utf8.first", "unicode/utf8.acceptRanges", "internal/bytealg.MaxLen"], plainKeys := false, apart := false, laid := [("math/bits.deBruijn32tab", laid_math_bits_deBruijn32tab), ("math/bits.deBruijn64tab", laid_math_bits_deBruijn64tab), ("internal/strconv.uint64pow10", laid_internal_strconv_uint64pow10), ("unicode/utf8.acceptRanges", laid_unicode_utf8_acceptRanges), ("unicode/utf8.first", laid_unicode_utf8_first)] }
def DrillSpoiltSaid : Prop := drillSpoiltRow.holds Tryz.pinned (OpenSpec.ofChange drillSpoiltSpec)

/-- ITS FALSE NEIGHBOUR: 'it returns false'. Refute it at one input. -/
def drillSpoiltWrong : ChangeSpec := { name := "drillSpoilt", fn := fun _ => fun
  | [d1, d2, d3] => { results := [.lit (.bool false)], args := [d1, d2, d3] }
  | _ => none }
def DrillSpoiltWrongFalsely : Prop := drillSpoiltRow.holds Tryz.pinned (OpenSpec.ofChange drillSpoiltWrong)

/- THE SECOND FORM. 'bulk': how many values and letters a reading holds, each counted each time it is reached (what is shared counts as often as it is met; a slice's spare places count too). A statement '..UptoSaid' is the law's where the arguments, and the package variables that the reading takes, are together of bulk at most 1048576: NARROWER than '..Said'. Prove '..Said' where nothing that the law and all that it calls make is longer than what came in: it says more and counts as full. Else prove '..UptoSaid'. A law counts once. -/
mutual
def uptoBulk {H : Type} : DataW H → Nat
  | .lit (.string bytes) => bytes.length + 1
  | .lit _ => 1
  | .nil => 1
  | .ptr d => uptoBulk d + 1
  | .slice elems spare => uptoBulkAll elems + uptoBulkAll spare + 1
  | .agg parts => uptoBulkAll parts + 1
  | .iface _ d => uptoBulk d + 1
  | .map entries => uptoBulkEntries entries + 1
  | .held _ => 1
def uptoBulkAll {H : Type} : List (DataW H) → Nat
  | [] => 0
  | d :: r => uptoBulk d + uptoBulkAll r
def uptoBulkEntries {H : Type} : List (Lit × DataW H) → Nat
  | [] => 0
  | x :: r => uptoBulkEntry x + uptoBulkEntries r
def uptoBulkEntry {H : Type} : Lit × DataW H → Nat
  | (.string bytes, d) => bytes.length + uptoBulk d + 1
  | (_, d) => uptoBulk d + 1
 end
def uptoSmall : (H : Type) → List (DataW H) → Bool := fun _ ds => decide (uptoBulkAll ds ≤ 1048576)
def OpenSpec.upto (s : _root_.Go.ChangeSpec) : _root_.Go.OpenSpec := { _root_.Go.OpenSpec.ofChange s with cond := some uptoSmall }

/-- 'nacrelaw02.DrillTurns', WHERE WHAT IT READS IS OF BULK AT MOST 1048576: true; the input reads as it did. -/
def drillTurnsUptoRow : OpenClaim := { program := "ytlhcjccaimmhgaagreatdoor", sum := "98f0f2a04c80e3a31acf5cb48b17b0d447e3272b074257d52be1ee4f8a603f50", func := "nacre/nacrelaw02.DrillTurns", spec := "drillTurns", inPlace := ["internal/abi.NoEscape", "internal/bytealg.MakeNoZero"], unfollowed := true, recurses := true, named := ["internal/strconv.uint64pow10", "math/bits.deBruijn32tab", "math/bits.deBruijn64tab"], plainKeys := false, apart := false, laid := [("math/bits.deBruijn32tab", laid_math_bits_deBruijn32tab), ("math/bits.deBruijn64tab", laid_math_bits_deBruijn64tab), ("internal/strconv.uint64pow10", laid_internal_strconv_uint64pow10)], narrowed := true }
def DrillTurnsUptoSaid : Prop := drillTurnsUptoRow.holds Tryz.pinned (OpenSpec.upto drillTurnsSpec)

/-- 'nacrelaw02.DrillTurned', WHERE WHAT IT READS IS OF BULK AT MOST 1048576: true; the input reads as it did. -/
def drillTurnedUptoRow : OpenClaim := { program := "ytlhcjccaimmhgaagreatdoor", sum := "98f0f2a04c80e3a31acf5cb48b17b0d447e3272b074257d52be1ee4f8a603f50", func := "nacre/nacrelaw02.DrillTurned", spec := "drillTurned", inPlace := ["internal/abi.NoEscape", "internal/bytealg.MakeNoZero"], unfollowed := true, recurses := true, named := ["internal/strconv.uint64pow10", "math/bits.deBruijn32tab", "math/bits.deBruijn64tab"], plainKeys := false, apart := false, laid := [("math/bits.deBruijn32tab", laid_math_bits_deBruijn32tab), ("math/bits.deBruijn64tab", laid_math_bits_deBruijn64tab), ("internal/strconv.uint64pow10", laid_internal_strconv_uint64pow10)], narrowed := true }
def DrillTurnedUptoSaid : Prop := drillTurnedUptoRow.holds Tryz.pinned (OpenSpec.upto drillTurnedSpec)

/-- 'nacrelaw02.DrillMatched', WHERE WHAT IT READS IS OF BULK AT MOST 1048576: true; the input reads as it did. -/
def drillMatchedUptoRow : OpenClaim := { program := "ytlhcjccaimmhgaagreatdoor", sum := "98f0f2a04c80e3a31acf5cb48b17b0d447e3272b074257d52be1ee4f8a603f50", func := "nacre/nacrelaw02.DrillMatched", spec := "drillMatched", inPlace := ["internal/abi.NoEscape", "internal/bytealg.MakeNoZero"], unfollowed := true, recurses := true, named := ["internal/strconv.uint64pow10", "math/bits.deBruijn32tab", "math/bits.deBruijn64tab"], plainKeys := false, apart := false, laid := [("math/bits.deBruijn32tab", laid_math_bits_deBruijn32tab), ("math/bits.deBruijn64tab", laid_math_bits_deBruijn64tab), ("internal/strconv.uint64pow10", laid_internal_strconv_uint64pow10)], narrowed := true }
def DrillMatchedUptoSaid : Prop := drillMatchedUptoRow.holds Tryz.pinned (OpenSpec.upto drillMatchedSpec)

/-- 'nacrelaw02.DrillKnowns', WHERE WHAT IT READS IS OF BULK AT MOST 1048576: true; the input reads as it did. -/
def drillKnownsUptoRow : OpenClaim := { program := "ytlhcjccaimmhgaagreatdoor", sum := "98f0f2a04c80e3a31acf5cb48b17b0d447e3272b074257d52be1ee4f8a603f50", func := "nacre/nacrelaw02.DrillKnowns", spec := "drillKnowns", inPlace := ["internal/abi.NoEscape", "internal/bytealg.MakeNoZero"], unfollowed := true, recurses := true, named := ["internal/strconv.uint64pow10", "math/bits.deBruijn32tab", "math/bits.deBruijn64tab"], plainKeys := false, apart := false, laid := [("math/bits.deBruijn32tab", laid_math_bits_deBruijn32tab), ("math/bits.deBruijn64tab", laid_math_bits_deBruijn64tab), ("internal/strconv.uint64pow10", laid_internal_strconv_uint64pow10)], narrowed := true }
def DrillKnownsUptoSaid : Prop := drillKnownsUptoRow.holds Tryz.pinned (OpenSpec.upto drillKnownsSpec)

/-- 'nacrelaw02.DrillSures', WHERE WHAT IT READS IS OF BULK AT MOST 1048576: true; the input reads as it did. -/
def drillSuresUptoRow : OpenClaim := { program := "ytlhcjccaimmhgaagreatdoor", sum := "98f0f2a04c80e3a31acf5cb48b17b0d447e3272b074257d52be1ee4f8a603f50", func := "nacre/nacrelaw02.DrillSures", spec := "drillSures", inPlace := ["internal/abi.NoEscape", "internal/bytealg.MakeNoZero"], unfollowed := true, recurses := true, named := ["internal/strconv.uint64pow10", "math/bits.deBruijn32tab", "math/bits.deBruijn64tab"], plainKeys := false, apart := false, laid := [("math/bits.deBruijn32tab", laid_math_bits_deBruijn32tab), ("math/bits.deBruijn64tab", laid_math_bits_deBruijn64tab), ("internal/strconv.uint64pow10", laid_internal_strconv_uint64pow10)], narrowed := true }
def DrillSuresUptoSaid : Prop := drillSuresUptoRow.holds Tryz.pinned (OpenSpec.upto drillSuresSpec)

/-- 'nacrelaw02.DrillGauges', WHERE WHAT IT READS IS OF BULK AT MOST 1048576: true; the input reads as it did. -/
def drillGaugesUptoRow : OpenClaim := { program := "ytlhcjccaimmhgaagreatdoor", sum := "98f0f2a04c80e3a31acf5cb48b17b0d447e3272b074257d52be1ee4f8a603f50", func := "nacre/nacrelaw02.DrillGauges", spec := "drillGauges", inPlace := ["internal/abi.NoEscape", "internal/bytealg.MakeNoZero"], unfollowed := true, recurses := true, named := ["internal/strconv.uint64pow10", "math/bits.deBruijn32tab", "math/bits.deBruijn64tab"], plainKeys := false, apart := false, laid := [("math/bits.deBruijn32tab", laid_math_bits_deBruijn32tab), ("math/bits.deBruijn64tab", laid_math_bits_deBruijn64tab), ("internal/strconv.uint64pow10", laid_internal_strconv_uint64pow10)], narrowed := true }
def DrillGaugesUptoSaid : Prop := drillGaugesUptoRow.holds Tryz.pinned (OpenSpec.upto drillGaugesSpec)

/-- 'nacrelaw02.DrillTogethers', WHERE WHAT IT READS IS OF BULK AT MOST 1048576: true; the input reads as it did. -/
def drillTogethersUptoRow : OpenClaim := { program := "ytlhcjccaimmhgaagreatdoor", sum := "98f0f2a04c80e3a31acf5cb48b17b0d447e3272b074257d52be1ee4f8a603f50", func := "nacre/nacrelaw02.DrillTogethers", spec := "drillTogethers", inPlace := ["internal/abi.NoEscape", "internal/bytealg.MakeNoZero"], unfollowed := true, recurses := true, named := ["internal/strconv.uint64pow10", "math/bits.deBruijn32tab", "math/bits.deBruijn64tab"], plainKeys := false, apart := false, laid := [("math/bits.deBruijn32tab", laid_math_bits_deBruijn32tab), ("math/bits.deBruijn64tab", laid_math_bits_deBruijn64tab), ("internal/strconv.uint64pow10", laid_internal_strconv_uint64pow10)], narrowed := true }
def DrillTogethersUptoSaid : Prop := drillTogethersUptoRow.holds Tryz.pinned (OpenSpec.upto drillTogethersSpec)

/-- 'nacrelaw02.DrillProves', WHERE WHAT IT READS IS OF BULK AT MOST 1048576: true; the input reads as it did. -/
def drillProvesUptoRow : OpenClaim := { program := "ytlhcjccaimmhgaagreatdoor", sum := "98f0f2a04c80e3a31acf5cb48b17b0d447e3272b074257d52be1ee4f8a603f50", func := "nacre/nacrelaw02.DrillProves", spec := "drillProves", inPlace := ["internal/abi.NoEscape", "internal/bytealg.MakeNoZero"], unfollowed := true, recurses := true, named := ["internal/strconv.uint64pow10", "math/bits.deBruijn32tab", "math/bits.deBruijn64tab"], plainKeys := false, apart := false, laid := [("math/bits.deBruijn32tab", laid_math_bits_deBruijn32tab), ("math/bits.deBruijn64tab", laid_math_bits_deBruijn64tab), ("internal/strconv.uint64pow10", laid_internal_strconv_uint64pow10)], narrowed := true }
def DrillProvesUptoSaid : Prop := drillProvesUptoRow.holds Tryz.pinned (OpenSpec.upto drillProvesSpec)

/-- 'nacrelaw02.DrillResets', WHERE WHAT IT READS IS OF BULK AT MOST 1048576: true; the input reads as it did. -/
def drillResetsUptoRow : OpenClaim := { program := "ytlhcjccaimmhgaagreatdoor", sum := "98f0f2a04c80e3a31acf5cb48b17b0d447e3272b074257d52be1ee4f8a603f50", func := "nacre/nacrelaw02.DrillResets", spec := "drillResets", inPlace := ["internal/abi.NoEscape", "internal/bytealg.MakeNoZero"], unfollowed := true, recurses := true, named := ["internal/strconv.uint64pow10", "math/bits.deBruijn32tab", "math/bits.deBruijn64tab"], plainKeys := false, apart := false, laid := [("math/bits.deBruijn32tab", laid_math_bits_deBruijn32tab), ("math/bits.deBruijn64tab", laid_math_bits_deBruijn64tab), ("internal/strconv.uint64pow10", laid_internal_strconv_uint64pow10)], narrowed := true }
def DrillResetsUptoSaid : Prop := drillResetsUptoRow.holds Tryz.pinned (OpenSpec.upto drillResetsSpec)

/-- 'nacrelaw02.DrillMoved', WHERE WHAT IT READS IS OF BULK AT MOST 1048576: true; the input reads as it did. -/
def drillMovedUptoRow : OpenClaim := { program := "ytlhcjccaimmhgaagreatdoor", sum := "98f0f2a04c80e3a31acf5cb48b17b0d447e3272b074257d52be1ee4f8a603f50", func := "nacre/nacrelaw02.DrillMoved", spec := "drillMoved", inPlace := ["internal/abi.NoEscape", "internal/bytealg.MakeNoZero"], unfollowed := true, recurses := true, named := ["internal/strconv.uint64pow10", "math/bits.deBruijn32tab", "math/bits.deBruijn64tab"], plainKeys := false, apart := false, laid := [("math/bits.deBruijn32tab", laid_math_bits_deBruijn32tab), ("math/bits.deBruijn64tab", laid_math_bits_deBruijn64tab), ("internal/strconv.uint64pow10", laid_internal_strconv_uint64pow10)], narrowed := true }
def DrillMovedUptoSaid : Prop := drillMovedUptoRow.holds Tryz.pinned (OpenSpec.upto drillMovedSpec)

/-- 'nacrelaw02.DrillMore', WHERE WHAT IT READS IS OF BULK AT MOST 1048576: true; the input reads as it did. -/
def drillMoreUptoRow : OpenClaim := { program := "ytlhcjccaimmhgaagreatdoor", sum := "98f0f2a04c80e3a31acf5cb48b17b0d447e3272b074257d52be1ee4f8a603f50", func := "nacre/nacrelaw02.DrillMore", spec := "drillMore", inPlace := ["internal/abi.NoEscape", "internal/bytealg.MakeNoZero"], unfollowed := true, recurses := true, named := ["internal/strconv.uint64pow10", "math/bits.deBruijn32tab", "math/bits.deBruijn64tab"], plainKeys := false, apart := false, laid := [("math/bits.deBruijn32tab", laid_math_bits_deBruijn32tab), ("math/bits.deBruijn64tab", laid_math_bits_deBruijn64tab), ("internal/strconv.uint64pow10", laid_internal_strconv_uint64pow10)], narrowed := true }
def DrillMoreUptoSaid : Prop := drillMoreUptoRow.holds Tryz.pinned (OpenSpec.upto drillMoreSpec)

/-- 'nacrelaw02.DrillMatches', WHERE WHAT IT READS IS OF BULK AT MOST 1048576: true; the input reads as it did. -/
def drillMatchesUptoRow : OpenClaim := { program := "ytlhcjccaimmhgaagreatdoor", sum := "98f0f2a04c80e3a31acf5cb48b17b0d447e3272b074257d52be1ee4f8a603f50", func := "nacre/nacrelaw02.DrillMatches", spec := "drillMatches", inPlace := ["internal/abi.NoEscape", "internal/bytealg.MakeNoZero"], unfollowed := true, recurses := true, named := ["internal/strconv.uint64pow10", "math/bits.deBruijn32tab", "math/bits.deBruijn64tab"], plainKeys := false, apart := false, laid := [("math/bits.deBruijn32tab", laid_math_bits_deBruijn32tab), ("math/bits.deBruijn64tab", laid_math_bits_deBruijn64tab), ("internal/strconv.uint64pow10", laid_internal_strconv_uint64pow10)], narrowed := true }
def DrillMatchesUptoSaid : Prop := drillMatchesUptoRow.holds Tryz.pinned (OpenSpec.upto drillMatchesSpec)

/-- 'nacrelaw02.DrillCoulds', WHERE WHAT IT READS IS OF BULK AT MOST 1048576: true; the input reads as it did. -/
def drillCouldsUptoRow : OpenClaim := { program := "ytlhcjccaimmhgaagreatdoor", sum := "98f0f2a04c80e3a31acf5cb48b17b0d447e3272b074257d52be1ee4f8a603f50", func := "nacre/nacrelaw02.DrillCoulds", spec := "drillCoulds", inPlace := ["internal/abi.NoEscape", "internal/bytealg.MakeNoZero"], unfollowed := true, recurses := true, named := ["internal/strconv.uint64pow10", "math/bits.deBruijn32tab", "math/bits.deBruijn64tab"], plainKeys := false, apart := false, laid := [("math/bits.deBruijn32tab", laid_math_bits_deBruijn32tab), ("math/bits.deBruijn64tab", laid_math_bits_deBruijn64tab), ("internal/strconv.uint64pow10", laid_internal_strconv_uint64pow10)], narrowed := true }
def DrillCouldsUptoSaid : Prop := drillCouldsUptoRow.holds Tryz.pinned (OpenSpec.upto drillCouldsSpec)

/-- 'nacrelaw02.DrillGood', WHERE WHAT IT READS IS OF BULK AT MOST 1048576: true; the input reads as it did. -/
def drillGoodUptoRow : OpenClaim := { program := "ytlhcjccaimmhgaagreatdoor", sum := "98f0f2a04c80e3a31acf5cb48b17b0d447e3272b074257d52be1ee4f8a603f50", func := "nacre/nacrelaw02.DrillGood", spec := "drillGood", inPlace := ["internal/abi.NoEscape", "internal/bytealg.MakeNoZero"], unfollowed := true, recurses := true, named := ["internal/strconv.uint64pow10", "math/bits.deBruijn32tab", "math/bits.deBruijn64tab"], plainKeys := false, apart := false, laid := [("math/bits.deBruijn32tab", laid_math_bits_deBruijn32tab), ("math/bits.deBruijn64tab", laid_math_bits_deBruijn64tab), ("internal/strconv.uint64pow10", laid_internal_strconv_uint64pow10)], narrowed := true }
def DrillGoodUptoSaid : Prop := drillGoodUptoRow.holds Tryz.pinned (OpenSpec.upto drillGoodSpec)

/-- 'nacrelaw02.DrillFirst', WHERE WHAT IT READS IS OF BULK AT MOST 1048576: true; the input reads as it did. -/
def drillFirstUptoRow : OpenClaim := { program := "ytlhcjccaimmhgaagreatdoor", sum := "98f0f2a04c80e3a31acf5cb48b17b0d447e3272b074257d52be1ee4f8a603f50", func := "nacre/nacrelaw02.DrillFirst", spec := "drillFirst", inPlace := ["internal/abi.NoEscape", "internal/bytealg.MakeNoZero"], unfollowed := true, recurses := true, named := ["internal/strconv.uint64pow10", "math/bits.deBruijn32tab", "math/bits.deBruijn64tab"], plainKeys := false, apart := false, laid := [("math/bits.deBruijn32tab", laid_math_bits_deBruijn32tab), ("math/bits.deBruijn64tab", laid_math_bits_deBruijn64tab), ("internal/strconv.uint64pow10", laid_internal_strconv_uint64pow10)], narrowed := true }
def DrillFirstUptoSaid : Prop := drillFirstUptoRow.holds Tryz.pinned (OpenSpec.upto drillFirstSpec)

/-- 'nacrelaw02.DrillReached', WHERE WHAT IT READS IS OF BULK AT MOST 1048576: true; the input reads as it did. -/
def drillReachedUptoRow : OpenClaim := { program := "ytlhcjccaimmhgaagreatdoor", sum := "98f0f2a04c80e3a31acf5cb48b17b0d447e3272b074257d52be1ee4f8a603f50", func := "nacre/nacrelaw02.DrillReached", spec := "drillReached", inPlace := ["internal/abi.NoEscape", "internal/bytealg.MakeNoZero"], unfollowed := true, recurses := true, named := ["internal/strconv.uint64pow10", "math/bits.deBruijn32tab", "math/bits.deBruijn64tab"], plainKeys := false, apart := false, laid := [("math/bits.deBruijn32tab", laid_math_bits_deBruijn32tab), ("math/bits.deBruijn64tab", laid_math_bits_deBruijn64tab), ("internal/strconv.uint64pow10", laid_internal_strconv_uint64pow10)], narrowed := true }
def DrillReachedUptoSaid : Prop := drillReachedUptoRow.holds Tryz.pinned (OpenSpec.upto drillReachedSpec)

/-- 'nacrelaw02.DrillRuns', WHERE WHAT IT READS IS OF BULK AT MOST 1048576: true; the input reads as it did. -/
def drillRunsUptoRow : OpenClaim := { program := "ytlhcjccaimmhgaagreatdoor", sum := "98f0f2a04c80e3a31acf5cb48b17b0d447e3272b074257d52be1ee4f8a603f50", func := "nacre/nacrelaw02.DrillRuns", spec := "drillRuns", inPlace := ["internal/abi.NoEscape", "internal/bytealg.MakeNoZero"], unfollowed := true, recurses := true, named := ["internal/strconv.uint64pow10", "math/bits.deBruijn32tab", "math/bits.deBruijn64tab"], plainKeys := false, apart := false, laid := [("math/bits.deBruijn32tab", laid_math_bits_deBruijn32tab), ("math/bits.deBruijn64tab", laid_math_bits_deBruijn64tab), ("internal/strconv.uint64pow10", laid_internal_strconv_uint64pow10)], narrowed := true }
def DrillRunsUptoSaid : Prop := drillRunsUptoRow.holds Tryz.pinned (OpenSpec.upto drillRunsSpec)

/-- 'nacrelaw02.DrillTrue', WHERE WHAT IT READS IS OF BULK AT MOST 1048576: true; the input reads as it did. -/
def drillTrueUptoRow : OpenClaim := { program := "ytlhcjccaimmhgaagreatdoor", sum := "98f0f2a04c80e3a31acf5cb48b17b0d447e3272b074257d52be1ee4f8a603f50", func := "nacre/nacrelaw02.DrillTrue", spec := "drillTrue", inPlace := ["internal/abi.NoEscape", "internal/bytealg.MakeNoZero"], unfollowed := true, recurses := true, named := ["internal/strconv.uint64pow10", "math/bits.deBruijn32tab", "math/bits.deBruijn64tab"], plainKeys := false, apart := false, laid := [("math/bits.deBruijn32tab", laid_math_bits_deBruijn32tab), ("math/bits.deBruijn64tab", laid_math_bits_deBruijn64tab), ("internal/strconv.uint64pow10", laid_internal_strconv_uint64pow10)], narrowed := true }
def DrillTrueUptoSaid : Prop := drillTrueUptoRow.holds Tryz.pinned (OpenSpec.upto drillTrueSpec)

/-- 'nacrelaw02.DrillFound', WHERE WHAT IT READS IS OF BULK AT MOST 1048576: true; the input reads as it did. -/
def drillFoundUptoRow : OpenClaim := { program := "ytlhcjccaimmhgaagreatdoor", sum := "98f0f2a04c80e3a31acf5cb48b17b0d447e3272b074257d52be1ee4f8a603f50", func := "nacre/nacrelaw02.DrillFound", spec := "drillFound", inPlace := ["internal/abi.NoEscape", "internal/bytealg.MakeNoZero"], unfollowed := true, recurses := true, named := ["internal/strconv.uint64pow10", "math/bits.deBruijn32tab", "math/bits.deBruijn64tab"], plainKeys := false, apart := false, laid := [("math/bits.deBruijn32tab", laid_math_bits_deBruijn32tab), ("math/bits.deBruijn64tab", laid_math_bits_deBruijn64tab), ("internal/strconv.uint64pow10", laid_internal_strconv_uint64pow10)], narrowed := true }
def DrillFoundUptoSaid : Prop := drillFoundUptoRow.holds Tryz.pinned (OpenSpec.upto drillFoundSpec)

/-- 'nacrelaw02.DrillPrints', WHERE WHAT IT READS IS OF BULK AT MOST 1048576: true; the input reads as it did. -/
def drillPrintsUptoRow : OpenClaim := { program := "ytlhcjccaimmhgaagreatdoor", sum := "98f0f2a04c80e3a31acf5cb48b17b0d447e3272b074257d52be1ee4f8a603f50", func := "nacre/nacrelaw02.DrillPrints", spec := "drillPrints", inPlace := ["internal/abi.NoEscape", "internal/bytealg.MakeNoZero", "internal/bytealg.CountString", "internal/bytealg.IndexByteString", "internal/bytealg.IndexString"], unfollowed := true, recurses := true, named := ["internal/strconv.uint64pow10", "math/bits.deBruijn32tab", "math/bits.deBruijn64tab", "unicode/utf8.first", "unicode/utf8.acceptRanges", "internal/bytealg.MaxLen"], plainKeys := false, apart := false, laid := [("math/bits.deBruijn32tab", laid_math_bits_deBruijn32tab), ("math/bits.deBruijn64tab", laid_math_bits_deBruijn64tab), ("internal/strconv.uint64pow10", laid_internal_strconv_uint64pow10), ("unicode/utf8.acceptRanges", laid_unicode_utf8_acceptRanges), ("unicode/utf8.first", laid_unicode_utf8_first)], narrowed := true }
def DrillPrintsUptoSaid : Prop := drillPrintsUptoRow.holds Tryz.pinned (OpenSpec.upto drillPrintsSpec)

/-- 'nacrelaw02.DrillReads', WHERE WHAT IT READS IS OF BULK AT MOST 1048576: true; the input reads as it did. -/
def drillReadsUptoRow : OpenClaim := { program := "ytlhcjccaimmhgaagreatdoor", sum := "98f0f2a04c80e3a31acf5cb48b17b0d447e3272b074257d52be1ee4f8a603f50", func := "nacre/nacrelaw02.DrillReads", spec := "drillReads", inPlace := ["internal/abi.NoEscape", "internal/bytealg.MakeNoZero", "internal/bytealg.CountString", "internal/bytealg.IndexByteString", "internal/bytealg.IndexString"], unfollowed := true, recurses := true, named := ["internal/strconv.uint64pow10", "math/bits.deBruijn32tab", "math/bits.deBruijn64tab", "unicode/utf8.first", "unicode/utf8.acceptRanges", "internal/bytealg.MaxLen"], plainKeys := false, apart := false, laid := [("math/bits.deBruijn32tab", laid_math_bits_deBruijn32tab), ("math/bits.deBruijn64tab", laid_math_bits_deBruijn64tab), ("internal/strconv.uint64pow10", laid_internal_strconv_uint64pow10), ("unicode/utf8.acceptRanges", laid_unicode_utf8_acceptRanges), ("unicode/utf8.first", laid_unicode_utf8_first)], narrowed := true }
def DrillReadsUptoSaid : Prop := drillReadsUptoRow.holds Tryz.pinned (OpenSpec.upto drillReadsSpec)

/-- 'nacrelaw02.DrillSpoilt', WHERE WHAT IT READS IS OF BULK AT MOST 1048576: true; the input reads as it did. -/
def drillSpoiltUptoRow : OpenClaim := { program := "ytlhcjccaimmhgaagreatdoor", sum := "98f0f2a04c80e3a31acf5cb48b17b0d447e3272b074257d52be1ee4f8a603f50", func := "nacre/nacrelaw02.DrillSpoilt", spec := "drillSpoilt", inPlace := ["internal/abi.NoEscape", "internal/bytealg.MakeNoZero", "internal/bytealg.CountString", "internal/bytealg.IndexByteString", "internal/bytealg.IndexString"], unfollowed := true, recurses := true, named := ["internal/strconv.uint64pow10", "math/bits.deBruijn32tab", "math/bits.deBruijn64tab", "unicode/utf8.first", "unicode/utf8.acceptRanges", "internal/bytealg.MaxLen"], plainKeys := false, apart := false, laid := [("math/bits.deBruijn32tab", laid_math_bits_deBruijn32tab), ("math/bits.deBruijn64tab", laid_math_bits_deBruijn64tab), ("internal/strconv.uint64pow10", laid_internal_strconv_uint64pow10), ("unicode/utf8.acceptRanges", laid_unicode_utf8_acceptRanges), ("unicode/utf8.first", laid_unicode_utf8_first)], narrowed := true }
def DrillSpoiltUptoSaid : Prop := drillSpoiltUptoRow.holds Tryz.pinned (OpenSpec.upto drillSpoiltSpec)

end Rows
end Go.Proofs.YtlhcjccaimmhgaaGreatDoor
