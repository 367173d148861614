/-
  NARROWER THAN 'FOR EVERY INPUT', by the rows' own cells (each row's printed sentence says how): MouldKnowns: laid · MouldHads: laid · MouldCoulds: laid · MouldTwices: laid · MouldProves: laid · MouldConfuseds: laid · MouldRivals: laid · MouldMore: laid · MouldPrints: laid · MouldReads: laid · MouldSpoilt: laid · MouldTrue: laid · MouldStamped: laid · MouldAgain: laid · MouldProof: laid · MouldTold: laid · MouldMarks: laid.
  DERIVED. THE GIVEN ROWS OF THIS SEAT. 17 by the template 'for every input the law returns true; each argument reads behind the call as it read before'; 0 by the template 'total and deterministic' (their statements: YtgihdicidaipmaaGreatDoorTotals.lean).
  GIVEN WITH THE SEED: the statements are not yours to turn. If you find one false, say at which input.
  Laid BY PROGRAM, IN A SANDBOX (cutbox-rows.mjs): the forced cells as the released guide's own fill.sh prints them over the translation e516269887198a9f… (all of the seat's roots in one cut). By AI agents, Wed Nov 11 2026. No macro, syntax, notation, axiom, sorry.
-/
import Derived.Test.YtgihdicidaipmaaGreatDoorChecked
import GoSem.PinnedTables
import GoSem.Claim
import GoSem.ClaimJoined
import GoSem.ClaimMapViews
import Derived.JoinedTies
import Derived.KernelRfl
namespace Go.Proofs.YtgihdicidaipmaaGreatDoor
/- THE CELL 'sum', in the pinned program and in every row, IS THE sha256 OF THE DUMP (.gsa) THAT YtgihdicidaipmaaGreatDoorProg.lean LOADS. Nothing in Lean hashes anything: it is a label: what it is worth is what the hold of that sum in a sandbox is worth. -/
noncomputable def Tryz.pinned : Pinned := { name := "ytgihdicidaipmaagreatdoor", sum := "e516269887198a9f54ecf1748e6fed5641c5f6ebd9b86d35085a4a1d53303c8a", checked := Tryz.checked }
namespace Rows
def none {H : Type} : Left H := { results := [], args := [] }

/- WHAT THE LISTED PACKAGE-LEVEL VARIABLES READ AS WHEN THE CALL BEGINS. Each datum BY PROGRAM (the guide's laid-datum.mjs) off the statement by which the dump's own 'gosem.cut.vars' lays the variable. In a bare row this is a premise. The card (YtgihdicidaipmaaGreatDoorCards.lean) ties it to the program's text. -/
def laid_math_bits_deBruijn32tab {H : Type} : DataW H := .agg [.lit (.int .u8 0), .lit (.int .u8 1), .lit (.int .u8 28), .lit (.int .u8 2), .lit (.int .u8 29), .lit (.int .u8 14), .lit (.int .u8 24), .lit (.int .u8 3), .lit (.int .u8 30), .lit (.int .u8 22), .lit (.int .u8 20), .lit (.int .u8 15), .lit (.int .u8 25), .lit (.int .u8 17), .lit (.int .u8 4), .lit (.int .u8 8), .lit (.int .u8 31), .lit (.int .u8 27), .lit (.int .u8 13), .lit (.int .u8 23), .lit (.int .u8 21), .lit (.int .u8 19), .lit (.int .u8 16), .lit (.int .u8 7), .lit (.int .u8 26), .lit (.int .u8 12), .lit (.int .u8 18), .lit (.int .u8 6), .lit (.int .u8 11), .lit (.int .u8 5), .lit (.int .u8 10), .lit (.int .u8 9)]
def laid_math_bits_deBruijn64tab {H : Type} : DataW H := .agg [.lit (.int .u8 0), .lit (.int .u8 1), .lit (.int .u8 56), .lit (.int .u8 2), .lit (.int .u8 57), .lit (.int .u8 49), .lit (.int .u8 28), .lit (.int .u8 3), .lit (.int .u8 61), .lit (.int .u8 58), .lit (.int .u8 42), .lit (.int .u8 50), .lit (.int .u8 38), .lit (.int .u8 29), .lit (.int .u8 17), .lit (.int .u8 4), .lit (.int .u8 62), .lit (.int .u8 47), .lit (.int .u8 59), .lit (.int .u8 36), .lit (.int .u8 45), .lit (.int .u8 43), .lit (.int .u8 51), .lit (.int .u8 22), .lit (.int .u8 53), .lit (.int .u8 39), .lit (.int .u8 33), .lit (.int .u8 30), .lit (.int .u8 24), .lit (.int .u8 18), .lit (.int .u8 12), .lit (.int .u8 5), .lit (.int .u8 63), .lit (.int .u8 55), .lit (.int .u8 48), .lit (.int .u8 27), .lit (.int .u8 60), .lit (.int .u8 41), .lit (.int .u8 37), .lit (.int .u8 16), .lit (.int .u8 46), .lit (.int .u8 35), .lit (.int .u8 44), .lit (.int .u8 21), .lit (.int .u8 52), .lit (.int .u8 32), .lit (.int .u8 23), .lit (.int .u8 11), .lit (.int .u8 54), .lit (.int .u8 26), .lit (.int .u8 40), .lit (.int .u8 15), .lit (.int .u8 34), .lit (.int .u8 20), .lit (.int .u8 31), .lit (.int .u8 10), .lit (.int .u8 25), .lit (.int .u8 14), .lit (.int .u8 19), .lit (.int .u8 9), .lit (.int .u8 13), .lit (.int .u8 8), .lit (.int .u8 7), .lit (.int .u8 6)]
def laid_internal_strconv_uint64pow10 {H : Type} : DataW H := .agg [.lit (.int .u64 1), .lit (.int .u64 10), .lit (.int .u64 100), .lit (.int .u64 1000), .lit (.int .u64 10000), .lit (.int .u64 100000), .lit (.int .u64 1000000), .lit (.int .u64 10000000), .lit (.int .u64 100000000), .lit (.int .u64 1000000000), .lit (.int .u64 10000000000), .lit (.int .u64 100000000000), .lit (.int .u64 1000000000000), .lit (.int .u64 10000000000000), .lit (.int .u64 100000000000000), .lit (.int .u64 1000000000000000), .lit (.int .u64 10000000000000000), .lit (.int .u64 100000000000000000), .lit (.int .u64 1000000000000000000), .lit (.int .u64 10000000000000000000)]
def laid_unicode_utf8_acceptRanges {H : Type} : DataW H := .agg [.agg [.lit (.int .u8 128), .lit (.int .u8 191)], .agg [.lit (.int .u8 160), .lit (.int .u8 191)], .agg [.lit (.int .u8 128), .lit (.int .u8 159)], .agg [.lit (.int .u8 144), .lit (.int .u8 191)], .agg [.lit (.int .u8 128), .lit (.int .u8 143)], .agg [.lit (.int .u8 0), .lit (.int .u8 0)], .agg [.lit (.int .u8 0), .lit (.int .u8 0)], .agg [.lit (.int .u8 0), .lit (.int .u8 0)], .agg [.lit (.int .u8 0), .lit (.int .u8 0)], .agg [.lit (.int .u8 0), .lit (.int .u8 0)], .agg [.lit (.int .u8 0), .lit (.int .u8 0)], .agg [.lit (.int .u8 0), .lit (.int .u8 0)], .agg [.lit (.int .u8 0), .lit (.int .u8 0)], .agg [.lit (.int .u8 0), .lit (.int .u8 0)], .agg [.lit (.int .u8 0), .lit (.int .u8 0)], .agg [.lit (.int .u8 0), .lit (.int .u8 0)]]
/-- One of Go's own tables, pinned by name: the form's constant. -/
def laid_unicode_utf8_first : DataW Unit := Go.Pinned.utf8First

/-- 'nacrelaw07.MouldKnowns': WHATEVER THE INPUT: true; the input reads as it did. -/
def mouldKnownsSpec : ChangeSpec := { name := "mouldKnowns", fn := fun _ => fun
  | [d1, d2, d3] => { results := [.lit (.bool true)], args := [d1, d2, d3] }
  | _ => none }
def mouldKnownsRow : OpenClaim := { program := "ytgihdicidaipmaagreatdoor", sum := "e516269887198a9f54ecf1748e6fed5641c5f6ebd9b86d35085a4a1d53303c8a", func := "nacre/nacrelaw07.MouldKnowns", spec := "mouldKnowns", inPlace := ["internal/bytealg.CountString", "internal/bytealg.IndexByteString", "internal/bytealg.IndexString", "internal/abi.NoEscape", "internal/bytealg.MakeNoZero"], unfollowed := true, recurses := true, named := ["unicode/utf8.first", "unicode/utf8.acceptRanges", "internal/bytealg.MaxLen", "internal/strconv.uint64pow10", "math/bits.deBruijn32tab", "math/bits.deBruijn64tab"], plainKeys := false, apart := false, laid := [("math/bits.deBruijn32tab", laid_math_bits_deBruijn32tab), ("math/bits.deBruijn64tab", laid_math_bits_deBruijn64tab), ("internal/strconv.uint64pow10", laid_internal_strconv_uint64pow10), ("unicode/utf8.acceptRanges", laid_unicode_utf8_acceptRanges), ("unicode/utf8.first", laid_unicode_utf8_first)] }
def MouldKnownsSaid : Prop := mouldKnownsRow.holds Tryz.pinned (OpenSpec.ofChange mouldKnownsSpec)

/-- ITS FALSE NEIGHBOUR: 'it returns false'. Refute it at one input. -/
def mouldKnownsWrong : ChangeSpec := { name := "mouldKnowns", fn := fun _ => fun
  | [d1, d2, d3] => { results := [.lit (.bool false)], args := [d1, d2, d3] }
  | _ => none }
def MouldKnownsWrongFalsely : Prop := mouldKnownsRow.holds Tryz.pinned (OpenSpec.ofChange mouldKnownsWrong)

/-- 'nacrelaw07.MouldHads': WHATEVER THE INPUT: true; the input reads as it did. -/
def mouldHadsSpec : ChangeSpec := { name := "mouldHads", fn := fun _ => fun
  | [d1, d2, d3] => { results := [.lit (.bool true)], args := [d1, d2, d3] }
  | _ => none }
def mouldHadsRow : OpenClaim := { program := "ytgihdicidaipmaagreatdoor", sum := "e516269887198a9f54ecf1748e6fed5641c5f6ebd9b86d35085a4a1d53303c8a", func := "nacre/nacrelaw07.MouldHads", spec := "mouldHads", inPlace := ["internal/bytealg.CountString", "internal/bytealg.IndexByteString", "internal/bytealg.IndexString", "internal/abi.NoEscape", "internal/bytealg.MakeNoZero"], unfollowed := true, recurses := true, named := ["unicode/utf8.first", "unicode/utf8.acceptRanges", "internal/bytealg.MaxLen", "internal/strconv.uint64pow10", "math/bits.deBruijn32tab", "math/bits.deBruijn64tab"], plainKeys := false, apart := false, laid := [("math/bits.deBruijn32tab", laid_math_bits_deBruijn32tab), ("math/bits.deBruijn64tab", laid_math_bits_deBruijn64tab), ("internal/strconv.uint64pow10", laid_internal_strconv_uint64pow10), ("unicode/utf8.acceptRanges", laid_unicode_utf8_acceptRanges), ("unicode/utf8.first", laid_unicode_utf8_first)] }
def MouldHadsSaid : Prop := mouldHadsRow.holds Tryz.pinned (OpenSpec.ofChange mouldHadsSpec)

/-- ITS FALSE NEIGHBOUR: 'it returns false'. Refute it at one input. -/
def mouldHadsWrong : ChangeSpec := { name := "mouldHads", fn := fun _ => fun
  | [d1, d2, d3] => { results := [.lit (.bool false)], args := [d1, d2, d3] }
  | _ => none }
def MouldHadsWrongFalsely : Prop := mouldHadsRow.holds Tryz.pinned (OpenSpec.ofChange mouldHadsWrong)

/-- 'nacrelaw07.MouldCoulds': WHATEVER THE INPUT: true; the input reads as it did. -/
def mouldCouldsSpec : ChangeSpec := { name := "mouldCoulds", fn := fun _ => fun
  | [d1, d2, d3] => { results := [.lit (.bool true)], args := [d1, d2, d3] }
  | _ => none }
def mouldCouldsRow : OpenClaim := { program := "ytgihdicidaipmaagreatdoor", sum := "e516269887198a9f54ecf1748e6fed5641c5f6ebd9b86d35085a4a1d53303c8a", func := "nacre/nacrelaw07.MouldCoulds", spec := "mouldCoulds", inPlace := ["internal/bytealg.CountString", "internal/bytealg.IndexByteString", "internal/bytealg.IndexString", "internal/abi.NoEscape", "internal/bytealg.MakeNoZero"], unfollowed := true, recurses := true, named := ["unicode/utf8.first", "unicode/utf8.acceptRanges", "internal/bytealg.MaxLen", "internal/strconv.uint64pow10", "math/bits.deBruijn32tab", "math/bits.deBruijn64tab"], plainKeys := false, apart := false, laid := [("math/bits.deBruijn32tab", laid_math_bits_deBruijn32tab), ("math/bits.deBruijn64tab", laid_math_bits_deBruijn64tab), ("internal/strconv.uint64pow10", laid_internal_strconv_uint64pow10), ("unicode/utf8.acceptRanges", laid_unicode_utf8_acceptRanges), ("unicode/utf8.first", laid_unicode_utf8_first)] }
def MouldCouldsSaid : Prop := mouldCouldsRow.holds Tryz.pinned (OpenSpec.ofChange mouldCouldsSpec)

/-- ITS FALSE NEIGHBOUR: 'it returns false'. Refute it at one input. -/
def mouldCouldsWrong : ChangeSpec := { name := "mouldCoulds", fn := fun _ => fun
  | [d1, d2, d3] => { results := [.lit (.bool false)], args := [d1, d2, d3] }
  | _ => none }
def MouldCouldsWrongFalsely : Prop := mouldCouldsRow.holds Tryz.pinned (OpenSpec.ofChange mouldCouldsWrong)

/-- 'nacrelaw07.MouldTwices': WHATEVER THE INPUT: true; the input reads as it did. -/
def mouldTwicesSpec : ChangeSpec := { name := "mouldTwices", fn := fun _ => fun
  | [d1, d2, d3] => { results := [.lit (.bool true)], args := [d1, d2, d3] }
  | _ => none }
def mouldTwicesRow : OpenClaim := { program := "ytgihdicidaipmaagreatdoor", sum := "e516269887198a9f54ecf1748e6fed5641c5f6ebd9b86d35085a4a1d53303c8a", func := "nacre/nacrelaw07.MouldTwices", spec := "mouldTwices", inPlace := ["internal/bytealg.CountString", "internal/bytealg.IndexByteString", "internal/bytealg.IndexString", "internal/abi.NoEscape", "internal/bytealg.MakeNoZero"], unfollowed := true, recurses := true, named := ["unicode/utf8.first", "unicode/utf8.acceptRanges", "internal/bytealg.MaxLen", "internal/strconv.uint64pow10", "math/bits.deBruijn32tab", "math/bits.deBruijn64tab"], plainKeys := false, apart := false, laid := [("math/bits.deBruijn32tab", laid_math_bits_deBruijn32tab), ("math/bits.deBruijn64tab", laid_math_bits_deBruijn64tab), ("internal/strconv.uint64pow10", laid_internal_strconv_uint64pow10), ("unicode/utf8.acceptRanges", laid_unicode_utf8_acceptRanges), ("unicode/utf8.first", laid_unicode_utf8_first)] }
def MouldTwicesSaid : Prop := mouldTwicesRow.holds Tryz.pinned (OpenSpec.ofChange mouldTwicesSpec)

/-- ITS FALSE NEIGHBOUR: 'it returns false'. Refute it at one input. -/
def mouldTwicesWrong : ChangeSpec := { name := "mouldTwices", fn := fun _ => fun
  | [d1, d2, d3] => { results := [.lit (.bool false)], args := [d1, d2, d3] }
  | _ => none }
def MouldTwicesWrongFalsely : Prop := mouldTwicesRow.holds Tryz.pinned (OpenSpec.ofChange mouldTwicesWrong)

/-- 'nacrelaw07.MouldProves': WHATEVER THE INPUT: true; the input reads as it did. -/
def mouldProvesSpec : ChangeSpec := { name := "mouldProves", fn := fun _ => fun
  | [d1, d2, d3, d4] => { results := [.lit (.bool true)], args := [d1, d2, d3, d4] }
  | _ => none }
def mouldProvesRow : OpenClaim := { program := "ytgihdicidaipmaagreatdoor", sum := "e516269887198a9f54ecf1748e6fed5641c5f6ebd9b86d35085a4a1d53303c8a", func := "nacre/nacrelaw07.MouldProves", spec := "mouldProves", inPlace := ["internal/bytealg.CountString", "internal/bytealg.IndexByteString", "internal/bytealg.IndexString", "internal/abi.NoEscape", "internal/bytealg.MakeNoZero"], unfollowed := true, recurses := true, named := ["unicode/utf8.first", "unicode/utf8.acceptRanges", "internal/bytealg.MaxLen", "internal/strconv.uint64pow10", "math/bits.deBruijn32tab", "math/bits.deBruijn64tab"], plainKeys := false, apart := false, laid := [("math/bits.deBruijn32tab", laid_math_bits_deBruijn32tab), ("math/bits.deBruijn64tab", laid_math_bits_deBruijn64tab), ("internal/strconv.uint64pow10", laid_internal_strconv_uint64pow10), ("unicode/utf8.acceptRanges", laid_unicode_utf8_acceptRanges), ("unicode/utf8.first", laid_unicode_utf8_first)] }
def MouldProvesSaid : Prop := mouldProvesRow.holds Tryz.pinned (OpenSpec.ofChange mouldProvesSpec)

/-- ITS FALSE NEIGHBOUR: 'it returns false'. Refute it at one input. -/
def mouldProvesWrong : ChangeSpec := { name := "mouldProves", fn := fun _ => fun
  | [d1, d2, d3, d4] => { results := [.lit (.bool false)], args := [d1, d2, d3, d4] }
  | _ => none }
def MouldProvesWrongFalsely : Prop := mouldProvesRow.holds Tryz.pinned (OpenSpec.ofChange mouldProvesWrong)

/-- 'nacrelaw07.MouldConfuseds': WHATEVER THE INPUT: true; the input reads as it did. -/
def mouldConfusedsSpec : ChangeSpec := { name := "mouldConfuseds", fn := fun _ => fun
  | [d1, d2, d3, d4] => { results := [.lit (.bool true)], args := [d1, d2, d3, d4] }
  | _ => none }
def mouldConfusedsRow : OpenClaim := { program := "ytgihdicidaipmaagreatdoor", sum := "e516269887198a9f54ecf1748e6fed5641c5f6ebd9b86d35085a4a1d53303c8a", func := "nacre/nacrelaw07.MouldConfuseds", spec := "mouldConfuseds", inPlace := ["internal/bytealg.CountString", "internal/bytealg.IndexByteString", "internal/bytealg.IndexString", "internal/abi.NoEscape", "internal/bytealg.MakeNoZero"], unfollowed := true, recurses := true, named := ["unicode/utf8.first", "unicode/utf8.acceptRanges", "internal/bytealg.MaxLen", "internal/strconv.uint64pow10", "math/bits.deBruijn32tab", "math/bits.deBruijn64tab"], plainKeys := false, apart := false, laid := [("math/bits.deBruijn32tab", laid_math_bits_deBruijn32tab), ("math/bits.deBruijn64tab", laid_math_bits_deBruijn64tab), ("internal/strconv.uint64pow10", laid_internal_strconv_uint64pow10), ("unicode/utf8.acceptRanges", laid_unicode_utf8_acceptRanges), ("unicode/utf8.first", laid_unicode_utf8_first)] }
def MouldConfusedsSaid : Prop := mouldConfusedsRow.holds Tryz.pinned (OpenSpec.ofChange mouldConfusedsSpec)

/-- ITS FALSE NEIGHBOUR: 'it returns false'. Refute it at one input. -/
def mouldConfusedsWrong : ChangeSpec := { name := "mouldConfuseds", fn := fun _ => fun
  | [d1, d2, d3, d4] => { results := [.lit (.bool false)], args := [d1, d2, d3, d4] }
  | _ => none }
def MouldConfusedsWrongFalsely : Prop := mouldConfusedsRow.holds Tryz.pinned (OpenSpec.ofChange mouldConfusedsWrong)

/-- 'nacrelaw07.MouldRivals': WHATEVER THE INPUT: true; the input reads as it did. -/
def mouldRivalsSpec : ChangeSpec := { name := "mouldRivals", fn := fun _ => fun
  | [d1, d2] => { results := [.lit (.bool true)], args := [d1, d2] }
  | _ => none }
def mouldRivalsRow : OpenClaim := { program := "ytgihdicidaipmaagreatdoor", sum := "e516269887198a9f54ecf1748e6fed5641c5f6ebd9b86d35085a4a1d53303c8a", func := "nacre/nacrelaw07.MouldRivals", spec := "mouldRivals", inPlace := ["internal/bytealg.CountString", "internal/bytealg.IndexByteString", "internal/bytealg.IndexString", "internal/abi.NoEscape", "internal/bytealg.MakeNoZero"], unfollowed := true, recurses := true, named := ["unicode/utf8.first", "unicode/utf8.acceptRanges", "internal/bytealg.MaxLen", "internal/strconv.uint64pow10", "math/bits.deBruijn32tab", "math/bits.deBruijn64tab"], plainKeys := false, apart := false, laid := [("math/bits.deBruijn32tab", laid_math_bits_deBruijn32tab), ("math/bits.deBruijn64tab", laid_math_bits_deBruijn64tab), ("internal/strconv.uint64pow10", laid_internal_strconv_uint64pow10), ("unicode/utf8.acceptRanges", laid_unicode_utf8_acceptRanges), ("unicode/utf8.first", laid_unicode_utf8_first)] }
def MouldRivalsSaid : Prop := mouldRivalsRow.holds Tryz.pinned (OpenSpec.ofChange mouldRivalsSpec)

/-- ITS FALSE NEIGHBOUR: 'it returns false'. Refute it at one input. -/
def mouldRivalsWrong : ChangeSpec := { name := "mouldRivals", fn := fun _ => fun
  | [d1, d2] => { results := [.lit (.bool false)], args := [d1, d2] }
  | _ => none }
def MouldRivalsWrongFalsely : Prop := mouldRivalsRow.holds Tryz.pinned (OpenSpec.ofChange mouldRivalsWrong)

/-- 'nacrelaw07.MouldMore': WHATEVER THE INPUT: true; the input reads as it did. -/
def mouldMoreSpec : ChangeSpec := { name := "mouldMore", fn := fun _ => fun
  | [d1, d2, d3, d4, d5, d6, d7, d8] => { results := [.lit (.bool true)], args := [d1, d2, d3, d4, d5, d6, d7, d8] }
  | _ => none }
def mouldMoreRow : OpenClaim := { program := "ytgihdicidaipmaagreatdoor", sum := "e516269887198a9f54ecf1748e6fed5641c5f6ebd9b86d35085a4a1d53303c8a", func := "nacre/nacrelaw07.MouldMore", spec := "mouldMore", inPlace := ["internal/bytealg.CountString", "internal/bytealg.IndexByteString", "internal/bytealg.IndexString", "internal/abi.NoEscape", "internal/bytealg.MakeNoZero"], unfollowed := true, recurses := true, named := ["unicode/utf8.first", "unicode/utf8.acceptRanges", "internal/bytealg.MaxLen", "internal/strconv.uint64pow10", "math/bits.deBruijn32tab", "math/bits.deBruijn64tab"], plainKeys := false, apart := false, laid := [("math/bits.deBruijn32tab", laid_math_bits_deBruijn32tab), ("math/bits.deBruijn64tab", laid_math_bits_deBruijn64tab), ("internal/strconv.uint64pow10", laid_internal_strconv_uint64pow10), ("unicode/utf8.acceptRanges", laid_unicode_utf8_acceptRanges), ("unicode/utf8.first", laid_unicode_utf8_first)] }
def MouldMoreSaid : Prop := mouldMoreRow.holds Tryz.pinned (OpenSpec.ofChange mouldMoreSpec)

/-- ITS FALSE NEIGHBOUR: 'it returns false'. Refute it at one input. -/
def mouldMoreWrong : ChangeSpec := { name := "mouldMore", fn := fun _ => fun
  | [d1, d2, d3, d4, d5, d6, d7, d8] => { results := [.lit (.bool false)], args := [d1, d2, d3, d4, d5, d6, d7, d8] }
  | _ => none }
def MouldMoreWrongFalsely : Prop := mouldMoreRow.holds Tryz.pinned (OpenSpec.ofChange mouldMoreWrong)

/-- 'nacrelaw07.MouldPrints': WHATEVER THE INPUT: true; the input reads as it did. -/
def mouldPrintsSpec : ChangeSpec := { name := "mouldPrints", fn := fun _ => fun
  | [d] => { results := [.lit (.bool true)], args := [d] }
  | _ => none }
def mouldPrintsRow : OpenClaim := { program := "ytgihdicidaipmaagreatdoor", sum := "e516269887198a9f54ecf1748e6fed5641c5f6ebd9b86d35085a4a1d53303c8a", func := "nacre/nacrelaw07.MouldPrints", spec := "mouldPrints", inPlace := ["internal/bytealg.CountString", "internal/bytealg.IndexByteString", "internal/bytealg.IndexString", "internal/abi.NoEscape", "internal/bytealg.MakeNoZero"], unfollowed := true, recurses := true, named := ["unicode/utf8.first", "unicode/utf8.acceptRanges", "internal/bytealg.MaxLen", "internal/strconv.uint64pow10", "math/bits.deBruijn32tab", "math/bits.deBruijn64tab"], plainKeys := false, apart := false, laid := [("math/bits.deBruijn32tab", laid_math_bits_deBruijn32tab), ("math/bits.deBruijn64tab", laid_math_bits_deBruijn64tab), ("internal/strconv.uint64pow10", laid_internal_strconv_uint64pow10), ("unicode/utf8.acceptRanges", laid_unicode_utf8_acceptRanges), ("unicode/utf8.first", laid_unicode_utf8_first)] }
def MouldPrintsSaid : Prop := mouldPrintsRow.holds Tryz.pinned (OpenSpec.ofChange mouldPrintsSpec)

/-- ITS FALSE NEIGHBOUR: 'it returns false'. Refute it at one input. -/
def mouldPrintsWrong : ChangeSpec := { name := "mouldPrints", fn := fun _ => fun
  | [d] => { results := [.lit (.bool false)], args := [d] }
  | _ => none }
def MouldPrintsWrongFalsely : Prop := mouldPrintsRow.holds Tryz.pinned (OpenSpec.ofChange mouldPrintsWrong)

/-- 'nacrelaw07.MouldReads': WHATEVER THE INPUT: true; the input reads as it did. -/
def mouldReadsSpec : ChangeSpec := { name := "mouldReads", fn := fun _ => fun
  | [d] => { results := [.lit (.bool true)], args := [d] }
  | _ => none }
def mouldReadsRow : OpenClaim := { program := "ytgihdicidaipmaagreatdoor", sum := "e516269887198a9f54ecf1748e6fed5641c5f6ebd9b86d35085a4a1d53303c8a", func := "nacre/nacrelaw07.MouldReads", spec := "mouldReads", inPlace := ["internal/bytealg.CountString", "internal/bytealg.IndexByteString", "internal/bytealg.IndexString", "internal/abi.NoEscape", "internal/bytealg.MakeNoZero"], unfollowed := true, recurses := true, named := ["unicode/utf8.first", "unicode/utf8.acceptRanges", "internal/bytealg.MaxLen", "internal/strconv.uint64pow10", "math/bits.deBruijn32tab", "math/bits.deBruijn64tab"], plainKeys := false, apart := false, laid := [("math/bits.deBruijn32tab", laid_math_bits_deBruijn32tab), ("math/bits.deBruijn64tab", laid_math_bits_deBruijn64tab), ("internal/strconv.uint64pow10", laid_internal_strconv_uint64pow10), ("unicode/utf8.acceptRanges", laid_unicode_utf8_acceptRanges), ("unicode/utf8.first", laid_unicode_utf8_first)] }
def MouldReadsSaid : Prop := mouldReadsRow.holds Tryz.pinned (OpenSpec.ofChange mouldReadsSpec)

/-- ITS FALSE NEIGHBOUR: 'it returns false'. Refute it at one input. -/
def mouldReadsWrong : ChangeSpec := { name := "mouldReads", fn := fun _ => fun
  | [d] => { results := [.lit (.bool false)], args := [d] }
  | _ => none }
def MouldReadsWrongFalsely : Prop := mouldReadsRow.holds Tryz.pinned (OpenSpec.ofChange mouldReadsWrong)

/-- 'nacrelaw07.MouldSpoilt': WHATEVER THE INPUT: true; the input reads as it did. -/
def mouldSpoiltSpec : ChangeSpec := { name := "mouldSpoilt", fn := fun _ => fun
  | [d1, d2, d3] => { results := [.lit (.bool true)], args := [d1, d2, d3] }
  | _ => none }
def mouldSpoiltRow : OpenClaim := { program := "ytgihdicidaipmaagreatdoor", sum := "e516269887198a9f54ecf1748e6fed5641c5f6ebd9b86d35085a4a1d53303c8a", func := "nacre/nacrelaw07.MouldSpoilt", spec := "mouldSpoilt", inPlace := ["internal/bytealg.CountString", "internal/bytealg.IndexByteString", "internal/bytealg.IndexString", "internal/abi.NoEscape", "internal/bytealg.MakeNoZero"], unfollowed := true, recurses := true, named := ["unicode/utf8.first", "unicode/utf8.acceptRanges", "internal/bytealg.MaxLen", "internal/strconv.uint64pow10", "math/bits.deBruijn32tab", "math/bits.deBruijn64tab"], plainKeys := false, apart := false, laid := [("math/bits.deBruijn32tab", laid_math_bits_deBruijn32tab), ("math/bits.deBruijn64tab", laid_math_bits_deBruijn64tab), ("internal/strconv.uint64pow10", laid_internal_strconv_uint64pow10), ("unicode/utf8.acceptRanges", laid_unicode_utf8_acceptRanges), ("unicode/utf8.first", laid_unicode_utf8_first)] }
def MouldSpoiltSaid : Prop := mouldSpoiltRow.holds Tryz.pinned (OpenSpec.ofChange mouldSpoiltSpec)

/-- ITS FALSE NEIGHBOUR: 'it returns false'. Refute it at one input. -/
def mouldSpoiltWrong : ChangeSpec := { name := "mouldSpoilt", fn := fun _ => fun
  | [d1, d2, d3] => { results := [.lit (.bool false)], args := [d1, d2, d3] }
  | _ => none }
def MouldSpoiltWrongFalsely : Prop := mouldSpoiltRow.holds Tryz.pinned (OpenSpec.ofChange mouldSpoiltWrong)

/-- 'nacrelaw07.MouldTrue': WHATEVER THE INPUT: true; the input reads as it did. -/
def mouldTrueSpec : ChangeSpec := { name := "mouldTrue", fn := fun _ => fun
  | [d1, d2, d3, d4, d5] => { results := [.lit (.bool true)], args := [d1, d2, d3, d4, d5] }
  | _ => none }
def mouldTrueRow : OpenClaim := { program := "ytgihdicidaipmaagreatdoor", sum := "e516269887198a9f54ecf1748e6fed5641c5f6ebd9b86d35085a4a1d53303c8a", func := "nacre/nacrelaw07.MouldTrue", spec := "mouldTrue", inPlace := ["internal/bytealg.CountString", "internal/bytealg.IndexByteString", "internal/bytealg.IndexString", "internal/abi.NoEscape", "internal/bytealg.MakeNoZero"], unfollowed := true, recurses := true, named := ["unicode/utf8.first", "unicode/utf8.acceptRanges", "internal/bytealg.MaxLen", "internal/strconv.uint64pow10", "math/bits.deBruijn32tab", "math/bits.deBruijn64tab"], plainKeys := false, apart := false, laid := [("math/bits.deBruijn32tab", laid_math_bits_deBruijn32tab), ("math/bits.deBruijn64tab", laid_math_bits_deBruijn64tab), ("internal/strconv.uint64pow10", laid_internal_strconv_uint64pow10), ("unicode/utf8.acceptRanges", laid_unicode_utf8_acceptRanges), ("unicode/utf8.first", laid_unicode_utf8_first)] }
def MouldTrueSaid : Prop := mouldTrueRow.holds Tryz.pinned (OpenSpec.ofChange mouldTrueSpec)

/-- ITS FALSE NEIGHBOUR: 'it returns false'. Refute it at one input. -/
def mouldTrueWrong : ChangeSpec := { name := "mouldTrue", fn := fun _ => fun
  | [d1, d2, d3, d4, d5] => { results := [.lit (.bool false)], args := [d1, d2, d3, d4, d5] }
  | _ => none }
def MouldTrueWrongFalsely : Prop := mouldTrueRow.holds Tryz.pinned (OpenSpec.ofChange mouldTrueWrong)

/-- 'nacrelaw07.MouldStamped': WHATEVER THE INPUT: true; the input reads as it did. -/
def mouldStampedSpec : ChangeSpec := { name := "mouldStamped", fn := fun _ => fun
  | [d1, d2, d3, d4, d5] => { results := [.lit (.bool true)], args := [d1, d2, d3, d4, d5] }
  | _ => none }
def mouldStampedRow : OpenClaim := { program := "ytgihdicidaipmaagreatdoor", sum := "e516269887198a9f54ecf1748e6fed5641c5f6ebd9b86d35085a4a1d53303c8a", func := "nacre/nacrelaw07.MouldStamped", spec := "mouldStamped", inPlace := ["internal/bytealg.CountString", "internal/bytealg.IndexByteString", "internal/bytealg.IndexString", "internal/abi.NoEscape", "internal/bytealg.MakeNoZero"], unfollowed := true, recurses := true, named := ["unicode/utf8.first", "unicode/utf8.acceptRanges", "internal/bytealg.MaxLen", "internal/strconv.uint64pow10", "math/bits.deBruijn32tab", "math/bits.deBruijn64tab"], plainKeys := false, apart := false, laid := [("math/bits.deBruijn32tab", laid_math_bits_deBruijn32tab), ("math/bits.deBruijn64tab", laid_math_bits_deBruijn64tab), ("internal/strconv.uint64pow10", laid_internal_strconv_uint64pow10), ("unicode/utf8.acceptRanges", laid_unicode_utf8_acceptRanges), ("unicode/utf8.first", laid_unicode_utf8_first)] }
def MouldStampedSaid : Prop := mouldStampedRow.holds Tryz.pinned (OpenSpec.ofChange mouldStampedSpec)

/-- ITS FALSE NEIGHBOUR: 'it returns false'. Refute it at one input. -/
def mouldStampedWrong : ChangeSpec := { name := "mouldStamped", fn := fun _ => fun
  | [d1, d2, d3, d4, d5] => { results := [.lit (.bool false)], args := [d1, d2, d3, d4, d5] }
  | _ => none }
def MouldStampedWrongFalsely : Prop := mouldStampedRow.holds Tryz.pinned (OpenSpec.ofChange mouldStampedWrong)

/-- 'nacrelaw07.MouldAgain': WHATEVER THE INPUT: true; the input reads as it did. -/
def mouldAgainSpec : ChangeSpec := { name := "mouldAgain", fn := fun _ => fun
  | [d1, d2, d3, d4, d5, d6, d7] => { results := [.lit (.bool true)], args := [d1, d2, d3, d4, d5, d6, d7] }
  | _ => none }
def mouldAgainRow : OpenClaim := { program := "ytgihdicidaipmaagreatdoor", sum := "e516269887198a9f54ecf1748e6fed5641c5f6ebd9b86d35085a4a1d53303c8a", func := "nacre/nacrelaw07.MouldAgain", spec := "mouldAgain", inPlace := ["internal/bytealg.CountString", "internal/bytealg.IndexByteString", "internal/bytealg.IndexString", "internal/abi.NoEscape", "internal/bytealg.MakeNoZero"], unfollowed := true, recurses := true, named := ["unicode/utf8.first", "unicode/utf8.acceptRanges", "internal/bytealg.MaxLen", "internal/strconv.uint64pow10", "math/bits.deBruijn32tab", "math/bits.deBruijn64tab"], plainKeys := false, apart := false, laid := [("math/bits.deBruijn32tab", laid_math_bits_deBruijn32tab), ("math/bits.deBruijn64tab", laid_math_bits_deBruijn64tab), ("internal/strconv.uint64pow10", laid_internal_strconv_uint64pow10), ("unicode/utf8.acceptRanges", laid_unicode_utf8_acceptRanges), ("unicode/utf8.first", laid_unicode_utf8_first)] }
def MouldAgainSaid : Prop := mouldAgainRow.holds Tryz.pinned (OpenSpec.ofChange mouldAgainSpec)

/-- ITS FALSE NEIGHBOUR: 'it returns false'. Refute it at one input. -/
def mouldAgainWrong : ChangeSpec := { name := "mouldAgain", fn := fun _ => fun
  | [d1, d2, d3, d4, d5, d6, d7] => { results := [.lit (.bool false)], args := [d1, d2, d3, d4, d5, d6, d7] }
  | _ => none }
def MouldAgainWrongFalsely : Prop := mouldAgainRow.holds Tryz.pinned (OpenSpec.ofChange mouldAgainWrong)

/-- 'nacrelaw07.MouldProof': WHATEVER THE INPUT: true; the input reads as it did. -/
def mouldProofSpec : ChangeSpec := { name := "mouldProof", fn := fun _ => fun
  | [d1, d2, d3, d4, d5, d6] => { results := [.lit (.bool true)], args := [d1, d2, d3, d4, d5, d6] }
  | _ => none }
def mouldProofRow : OpenClaim := { program := "ytgihdicidaipmaagreatdoor", sum := "e516269887198a9f54ecf1748e6fed5641c5f6ebd9b86d35085a4a1d53303c8a", func := "nacre/nacrelaw07.MouldProof", spec := "mouldProof", inPlace := ["internal/bytealg.CountString", "internal/bytealg.IndexByteString", "internal/bytealg.IndexString", "internal/abi.NoEscape", "internal/bytealg.MakeNoZero"], unfollowed := true, recurses := true, named := ["unicode/utf8.first", "unicode/utf8.acceptRanges", "internal/bytealg.MaxLen", "internal/strconv.uint64pow10", "math/bits.deBruijn32tab", "math/bits.deBruijn64tab"], plainKeys := false, apart := false, laid := [("math/bits.deBruijn32tab", laid_math_bits_deBruijn32tab), ("math/bits.deBruijn64tab", laid_math_bits_deBruijn64tab), ("internal/strconv.uint64pow10", laid_internal_strconv_uint64pow10), ("unicode/utf8.acceptRanges", laid_unicode_utf8_acceptRanges), ("unicode/utf8.first", laid_unicode_utf8_first)] }
def MouldProofSaid : Prop := mouldProofRow.holds Tryz.pinned (OpenSpec.ofChange mouldProofSpec)

/-- ITS FALSE NEIGHBOUR: 'it returns false'. Refute it at one input. -/
def mouldProofWrong : ChangeSpec := { name := "mouldProof", fn := fun _ => fun
  | [d1, d2, d3, d4, d5, d6] => { results := [.lit (.bool false)], args := [d1, d2, d3, d4, d5, d6] }
  | _ => none }
def MouldProofWrongFalsely : Prop := mouldProofRow.holds Tryz.pinned (OpenSpec.ofChange mouldProofWrong)

/-- 'nacrelaw07.MouldTold': WHATEVER THE INPUT: true; the input reads as it did. -/
def mouldToldSpec : ChangeSpec := { name := "mouldTold", fn := fun _ => fun
  | [d1, d2, d3, d4, d5, d6] => { results := [.lit (.bool true)], args := [d1, d2, d3, d4, d5, d6] }
  | _ => none }
def mouldToldRow : OpenClaim := { program := "ytgihdicidaipmaagreatdoor", sum := "e516269887198a9f54ecf1748e6fed5641c5f6ebd9b86d35085a4a1d53303c8a", func := "nacre/nacrelaw07.MouldTold", spec := "mouldTold", inPlace := ["internal/bytealg.CountString", "internal/bytealg.IndexByteString", "internal/bytealg.IndexString", "internal/abi.NoEscape", "internal/bytealg.MakeNoZero"], unfollowed := true, recurses := true, named := ["unicode/utf8.first", "unicode/utf8.acceptRanges", "internal/bytealg.MaxLen", "internal/strconv.uint64pow10", "math/bits.deBruijn32tab", "math/bits.deBruijn64tab"], plainKeys := false, apart := false, laid := [("math/bits.deBruijn32tab", laid_math_bits_deBruijn32tab), ("math/bits.deBruijn64tab", laid_math_bits_deBruijn64tab), ("internal/strconv.uint64pow10", laid_internal_strconv_uint64pow10), ("unicode/utf8.acceptRanges", laid_unicode_utf8_acceptRanges), ("unicode/utf8.first", laid_unicode_utf8_first)] }
def MouldToldSaid : Prop := mouldToldRow.holds Tryz.pinned (OpenSpec.ofChange mouldToldSpec)

/-- ITS FALSE NEIGHBOUR: 'it returns false'. Refute it at one input. -/
def mouldToldWrong : ChangeSpec := { name := "mouldTold", fn := fun _ => fun
  | [d1, d2, d3, d4, d5, d6] => { results := [.lit (.bool false)], args := [d1, d2, d3, d4, d5, d6] }
  | _ => none }
def MouldToldWrongFalsely : Prop := mouldToldRow.holds Tryz.pinned (OpenSpec.ofChange mouldToldWrong)

/-- 'nacrelaw07.MouldMarks': WHATEVER THE INPUT: true; the input reads as it did. -/
def mouldMarksSpec : ChangeSpec := { name := "mouldMarks", fn := fun _ => fun
  | [d1, d2, d3, d4] => { results := [.lit (.bool true)], args := [d1, d2, d3, d4] }
  | _ => none }
def mouldMarksRow : OpenClaim := { program := "ytgihdicidaipmaagreatdoor", sum := "e516269887198a9f54ecf1748e6fed5641c5f6ebd9b86d35085a4a1d53303c8a", func := "nacre/nacrelaw07.MouldMarks", spec := "mouldMarks", inPlace := ["internal/bytealg.CountString", "internal/bytealg.IndexByteString", "internal/bytealg.IndexString", "internal/abi.NoEscape", "internal/bytealg.MakeNoZero"], unfollowed := true, recurses := true, named := ["unicode/utf8.first", "unicode/utf8.acceptRanges", "internal/bytealg.MaxLen", "internal/strconv.uint64pow10", "math/bits.deBruijn32tab", "math/bits.deBruijn64tab"], plainKeys := false, apart := false, laid := [("math/bits.deBruijn32tab", laid_math_bits_deBruijn32tab), ("math/bits.deBruijn64tab", laid_math_bits_deBruijn64tab), ("internal/strconv.uint64pow10", laid_internal_strconv_uint64pow10), ("unicode/utf8.acceptRanges", laid_unicode_utf8_acceptRanges), ("unicode/utf8.first", laid_unicode_utf8_first)] }
def MouldMarksSaid : Prop := mouldMarksRow.holds Tryz.pinned (OpenSpec.ofChange mouldMarksSpec)

/-- ITS FALSE NEIGHBOUR: 'it returns false'. Refute it at one input. -/
def mouldMarksWrong : ChangeSpec := { name := "mouldMarks", fn := fun _ => fun
  | [d1, d2, d3, d4] => { results := [.lit (.bool false)], args := [d1, d2, d3, d4] }
  | _ => none }
def MouldMarksWrongFalsely : Prop := mouldMarksRow.holds Tryz.pinned (OpenSpec.ofChange mouldMarksWrong)

/- THE SECOND FORM. 'bulk': how many values and letters a reading holds, each counted each time it is reached (what is shared counts as often as it is met; a slice's spare places count too). A statement '..UptoSaid' is the law's where the arguments, and the package variables that the reading takes, are together of bulk at most 1048576: NARROWER than '..Said'. Prove '..Said' where nothing that the law and all that it calls make is longer than what came in: it says more and counts as full. Else prove '..UptoSaid'. A law counts once. -/
mutual
def uptoBulk {H : Type} : DataW H → Nat
  | .lit (.string bytes) => bytes.length + 1
  | .lit _ => 1
  | .nil => 1
  | .ptr d => uptoBulk d + 1
  | .slice elems spare => uptoBulkAll elems + uptoBulkAll spare + 1
  | .agg parts => uptoBulkAll parts + 1
  | .iface _ d => uptoBulk d + 1
  | .map entries => uptoBulkEntries entries + 1
  | .held _ => 1
def uptoBulkAll {H : Type} : List (DataW H) → Nat
  | [] => 0
  | d :: r => uptoBulk d + uptoBulkAll r
def uptoBulkEntries {H : Type} : List (Lit × DataW H) → Nat
  | [] => 0
  | x :: r => uptoBulkEntry x + uptoBulkEntries r
def uptoBulkEntry {H : Type} : Lit × DataW H → Nat
  | (.string bytes, d) => bytes.length + uptoBulk d + 1
  | (_, d) => uptoBulk d + 1
 end
def uptoSmall : (H : Type) → List (DataW H) → Bool := fun _ ds => decide (uptoBulkAll ds ≤ 1048576)
def OpenSpec.upto (s : _root_.Go.ChangeSpec) : _root_.Go.OpenSpec := { _root_.Go.OpenSpec.ofChange s with cond := some uptoSmall }

/-- 'nacrelaw07.MouldKnowns', WHERE WHAT IT READS IS OF BULK AT MOST 1048576: true; the input reads as it did. -/
def mouldKnownsUptoRow : OpenClaim := { program := "ytgihdicidaipmaagreatdoor", sum := "e516269887198a9f54ecf1748e6fed5641c5f6ebd9b86d35085a4a1d53303c8a", func := "nacre/nacrelaw07.MouldKnowns", spec := "mouldKnowns", inPlace := ["internal/bytealg.CountString", "internal/bytealg.IndexByteString", "internal/bytealg.IndexString", "internal/abi.NoEscape", "internal/bytealg.MakeNoZero"], unfollowed := true, recurses := true, named := ["unicode/utf8.first", "unicode/utf8.acceptRanges", "internal/bytealg.MaxLen", "internal/strconv.uint64pow10", "math/bits.deBruijn32tab", "math/bits.deBruijn64tab"], plainKeys := false, apart := false, laid := [("math/bits.deBruijn32tab", laid_math_bits_deBruijn32tab), ("math/bits.deBruijn64tab", laid_math_bits_deBruijn64tab), ("internal/strconv.uint64pow10", laid_internal_strconv_uint64pow10), ("unicode/utf8.acceptRanges", laid_unicode_utf8_acceptRanges), ("unicode/utf8.first", laid_unicode_utf8_first)], narrowed := true }
def MouldKnownsUptoSaid : Prop := mouldKnownsUptoRow.holds Tryz.pinned (OpenSpec.upto mouldKnownsSpec)

/-- 'nacrelaw07.MouldHads', WHERE WHAT IT READS IS OF BULK AT MOST 1048576: true; the input reads as it did. -/
def mouldHadsUptoRow : OpenClaim := { program := "ytgihdicidaipmaagreatdoor", sum := "e516269887198a9f54ecf1748e6fed5641c5f6ebd9b86d35085a4a1d53303c8a", func := "nacre/nacrelaw07.MouldHads", spec := "mouldHads", inPlace := ["internal/bytealg.CountString", "internal/bytealg.IndexByteString", "internal/bytealg.IndexString", "internal/abi.NoEscape", "internal/bytealg.MakeNoZero"], unfollowed := true, recurses := true, named := ["unicode/utf8.first", "unicode/utf8.acceptRanges", "internal/bytealg.MaxLen", "internal/strconv.uint64pow10", "math/bits.deBruijn32tab", "math/bits.deBruijn64tab"], plainKeys := false, apart := false, laid := [("math/bits.deBruijn32tab", laid_math_bits_deBruijn32tab), ("math/bits.deBruijn64tab", laid_math_bits_deBruijn64tab), ("internal/strconv.uint64pow10", laid_internal_strconv_uint64pow10), ("unicode/utf8.acceptRanges", laid_unicode_utf8_acceptRanges), ("unicode/utf8.first", laid_unicode_utf8_first)], narrowed := true }
def MouldHadsUptoSaid : Prop := mouldHadsUptoRow.holds Tryz.pinned (OpenSpec.upto mouldHadsSpec)

/-- 'nacrelaw07.MouldCoulds', WHERE WHAT IT READS IS OF BULK AT MOST 1048576: true; the input reads as it did. -/
def mouldCouldsUptoRow : OpenClaim := { program := "ytgihdicidaipmaagreatdoor", sum := "e516269887198a9f54ecf1748e6fed5641c5f6ebd9b86d35085a4a1d53303c8a", func := "nacre/nacrelaw07.MouldCoulds", spec := "mouldCoulds", inPlace := ["internal/bytealg.CountString", "internal/bytealg.IndexByteString", "internal/bytealg.IndexString", "internal/abi.NoEscape", "internal/bytealg.MakeNoZero"], unfollowed := true, recurses := true, named := ["unicode/utf8.first", "unicode/utf8.acceptRanges", "internal/bytealg.MaxLen", "internal/strconv.uint64pow10", "math/bits.deBruijn32tab", "math/bits.deBruijn64tab"], plainKeys := false, apart := false, laid := [("math/bits.deBruijn32tab", laid_math_bits_deBruijn32tab), ("math/bits.deBruijn64tab", laid_math_bits_deBruijn64tab), ("internal/strconv.uint64pow10", laid_internal_strconv_uint64pow10), ("unicode/utf8.acceptRanges", laid_unicode_utf8_acceptRanges), ("unicode/utf8.first", laid_unicode_utf8_first)], narrowed := true }
def MouldCouldsUptoSaid : Prop := mouldCouldsUptoRow.holds Tryz.pinned (OpenSpec.upto mouldCouldsSpec)

/-- 'nacrelaw07.MouldTwices', WHERE WHAT IT READS IS OF BULK AT MOST 1048576: true; the input reads as it did. -/
def mouldTwicesUptoRow : OpenClaim := { program := "ytgihdicidaipmaagreatdoor", sum := "e516269887198a9f54ecf1748e6fed5641c5f6ebd9b86d35085a4a1d53303c8a", func := "nacre/nacrelaw07.MouldTwices", spec := "mouldTwices", inPlace := ["internal/bytealg.CountString", "internal/bytealg.IndexByteString", "internal/bytealg.IndexString", "internal/abi.NoEscape", "internal/bytealg.MakeNoZero"], unfollowed := true, recurses := true, named := ["unicode/utf8.first", "unicode/utf8.acceptRanges", "internal/bytealg.MaxLen", "internal/strconv.uint64pow10", "math/bits.deBruijn32tab", "math/bits.deBruijn64tab"], plainKeys := false, apart := false, laid := [("math/bits.deBruijn32tab", laid_math_bits_deBruijn32tab), ("math/bits.deBruijn64tab", laid_math_bits_deBruijn64tab), ("internal/strconv.uint64pow10", laid_internal_strconv_uint64pow10), ("unicode/utf8.acceptRanges", laid_unicode_utf8_acceptRanges), ("unicode/utf8.first", laid_unicode_utf8_first)], narrowed := true }
def MouldTwicesUptoSaid : Prop := mouldTwicesUptoRow.holds Tryz.pinned (OpenSpec.upto mouldTwicesSpec)

/-- 'nacrelaw07.MouldProves', WHERE WHAT IT READS IS OF BULK AT MOST 1048576: true; the input reads as it did. -/
def mouldProvesUptoRow : OpenClaim := { program := "ytgihdicidaipmaagreatdoor", sum := "e516269887198a9f54ecf1748e6fed5641c5f6ebd9b86d35085a4a1d53303c8a", func := "nacre/nacrelaw07.MouldProves", spec := "mouldProves", inPlace := ["internal/bytealg.CountString", "internal/bytealg.IndexByteString", "internal/bytealg.IndexString", "internal/abi.NoEscape", "internal/bytealg.MakeNoZero"], unfollowed := true, recurses := true, named := ["unicode/utf8.first", "unicode/utf8.acceptRanges", "internal/bytealg.MaxLen", "internal/strconv.uint64pow10", "math/bits.deBruijn32tab", "math/bits.deBruijn64tab"], plainKeys := false, apart := false, laid := [("math/bits.deBruijn32tab", laid_math_bits_deBruijn32tab), ("math/bits.deBruijn64tab", laid_math_bits_deBruijn64tab), ("internal/strconv.uint64pow10", laid_internal_strconv_uint64pow10), ("unicode/utf8.acceptRanges", laid_unicode_utf8_acceptRanges), ("unicode/utf8.first", laid_unicode_utf8_first)], narrowed := true }
def MouldProvesUptoSaid : Prop := mouldProvesUptoRow.holds Tryz.pinned (OpenSpec.upto mouldProvesSpec)

/-- 'nacrelaw07.MouldConfuseds', WHERE WHAT IT READS IS OF BULK AT MOST 1048576: true; the input reads as it did. -/
def mouldConfusedsUptoRow : OpenClaim := { program := "ytgihdicidaipmaagreatdoor", sum := "e516269887198a9f54ecf1748e6fed5641c5f6ebd9b86d35085a4a1d53303c8a", func := "nacre/nacrelaw07.MouldConfuseds", spec := "mouldConfuseds", inPlace := ["internal/bytealg.CountString", "internal/bytealg.IndexByteString", "internal/bytealg.IndexString", "internal/abi.NoEscape", "internal/bytealg.MakeNoZero"], unfollowed := true, recurses := true, named := ["unicode/utf8.first", "unicode/utf8.acceptRanges", "internal/bytealg.MaxLen", "internal/strconv.uint64pow10", "math/bits.deBruijn32tab", "math/bits.deBruijn64tab"], plainKeys := false, apart := false, laid := [("math/bits.deBruijn32tab", laid_math_bits_deBruijn32tab), ("math/bits.deBruijn64tab", laid_math_bits_deBruijn64tab), ("internal/strconv.uint64pow10", laid_internal_strconv_uint64pow10), ("unicode/utf8.acceptRanges", laid_unicode_utf8_acceptRanges), ("unicode/utf8.first", laid_unicode_utf8_first)], narrowed := true }
def MouldConfusedsUptoSaid : Prop := mouldConfusedsUptoRow.holds Tryz.pinned (OpenSpec.upto mouldConfusedsSpec)

/-- 'nacrelaw07.MouldRivals', WHERE WHAT IT READS IS OF BULK AT MOST 1048576: true; the input reads as it did. -/
def mouldRivalsUptoRow : OpenClaim := { program := "ytgihdicidaipmaagreatdoor", sum := "e516269887198a9f54ecf1748e6fed5641c5f6ebd9b86d35085a4a1d53303c8a", func := "nacre/nacrelaw07.MouldRivals", spec := "mouldRivals", inPlace := ["internal/bytealg.CountString", "internal/bytealg.IndexByteString", "internal/bytealg.IndexString", "internal/abi.NoEscape", "internal/bytealg.MakeNoZero"], unfollowed := true, recurses := true, named := ["unicode/utf8.first", "unicode/utf8.acceptRanges", "internal/bytealg.MaxLen", "internal/strconv.uint64pow10", "math/bits.deBruijn32tab", "math/bits.deBruijn64tab"], plainKeys := false, apart := false, laid := [("math/bits.deBruijn32tab", laid_math_bits_deBruijn32tab), ("math/bits.deBruijn64tab", laid_math_bits_deBruijn64tab), ("internal/strconv.uint64pow10", laid_internal_strconv_uint64pow10), ("unicode/utf8.acceptRanges", laid_unicode_utf8_acceptRanges), ("unicode/utf8.first", laid_unicode_utf8_first)], narrowed := true }
def MouldRivalsUptoSaid : Prop := mouldRivalsUptoRow.holds Tryz.pinned (OpenSpec.upto mouldRivalsSpec)

/-- 'nacrelaw07.MouldMore', WHERE WHAT IT READS IS OF BULK AT MOST 1048576: true; the input reads as it did. -/
def mouldMoreUptoRow : OpenClaim := { program := "ytgihdicidaipmaagreatdoor", sum := "e516269887198a9f54ecf1748e6fed5641c5f6ebd9b86d35085a4a1d53303c8a", func := "nacre/nacrelaw07.MouldMore", spec := "mouldMore", inPlace := ["internal/bytealg.CountString", "internal/bytealg.IndexByteString", "internal/bytealg.IndexString", "internal/abi.NoEscape", "internal/bytealg.MakeNoZero"], unfollowed := true, recurses := true, named := ["unicode/utf8.first", "unicode/utf8.acceptRanges", "internal/bytealg.MaxLen", "internal/strconv.uint64pow10", "math/bits.deBruijn32tab", "math/bits.deBruijn64tab"], plainKeys := false, apart := false, laid := [("math/bits.deBruijn32tab", laid_math_bits_deBruijn32tab), ("math/bits.deBruijn64tab", laid_math_bits_deBruijn64tab), ("internal/strconv.uint64pow10", laid_internal_strconv_uint64pow10), ("unicode/utf8.acceptRanges", laid_unicode_utf8_acceptRanges), ("unicode/utf8.first", laid_unicode_utf8_first)], narrowed := true }
def MouldMoreUptoSaid : Prop := mouldMoreUptoRow.holds Tryz.pinned (OpenSpec.upto mouldMoreSpec)

/-- 'nacrelaw07.MouldPrints', WHERE WHAT IT READS IS OF BULK AT MOST 1048576: true; the input reads as it did. -/
def mouldPrintsUptoRow : OpenClaim := { program := "ytgihdicidaipmaagreatdoor", sum := "e516269887198a9f54ecf1748e6fed5641c5f6ebd9b86d35085a4a1d53303c8a", func := "nacre/nacrelaw07.MouldPrints", spec := "mouldPrints", inPlace := ["internal/bytealg.CountString", "internal/bytealg.IndexByteString", "internal/bytealg.IndexString", "internal/abi.NoEscape", "internal/bytealg.MakeNoZero"], unfollowed := true, recurses := true, named := ["unicode/utf8.first", "unicode/utf8.acceptRanges", "internal/bytealg.MaxLen", "internal/strconv.uint64pow10", "math/bits.deBruijn32tab", "math/bits.deBruijn64tab"], plainKeys := false, apart := false, laid := [("math/bits.deBruijn32tab", laid_math_bits_deBruijn32tab), ("math/bits.deBruijn64tab", laid_math_bits_deBruijn64tab), ("internal/strconv.uint64pow10", laid_internal_strconv_uint64pow10), ("unicode/utf8.acceptRanges", laid_unicode_utf8_acceptRanges), ("unicode/utf8.first", laid_unicode_utf8_first)], narrowed := true }
def MouldPrintsUptoSaid : Prop := mouldPrintsUptoRow.holds Tryz.pinned (OpenSpec.upto mouldPrintsSpec)

/-- 'nacrelaw07.MouldReads', WHERE WHAT IT READS IS OF BULK AT MOST 1048576: true; the input reads as it did. -/
def mouldReadsUptoRow : OpenClaim := { program := "ytgihdicidaipmaagreatdoor", sum := "e516269887198a9f54ecf1748e6fed5641c5f6ebd9b86d35085a4a1d53303c8a", func := "nacre/nacrelaw07.MouldReads", spec := "mouldReads", inPlace := ["internal/bytealg.CountString", "internal/bytealg.IndexByteString", "internal/bytealg.IndexString", "internal/abi.NoEscape", "internal/bytealg.MakeNoZero"], unfollowed := true, recurses := true, named := ["unicode/utf8.first", "unicode/utf8.acceptRanges", "internal/bytealg.MaxLen", "internal/strconv.uint64pow10", "math/bits.deBruijn32tab", "math/bits.deBruijn64tab"], plainKeys := false, apart := false, laid := [("math/bits.deBruijn32tab", laid_math_bits_deBruijn32tab), ("math/bits.deBruijn64tab", laid_math_bits_deBruijn64tab), ("internal/strconv.uint64pow10", laid_internal_strconv_uint64pow10), ("unicode/utf8.acceptRanges", laid_unicode_utf8_acceptRanges), ("unicode/utf8.first", laid_unicode_utf8_first)], narrowed := true }
def MouldReadsUptoSaid : Prop := mouldReadsUptoRow.holds Tryz.pinned (OpenSpec.upto mouldReadsSpec)

/-- 'nacrelaw07.MouldSpoilt', WHERE WHAT IT READS IS OF BULK AT MOST 1048576: true; the input reads as it did. -/
def mouldSpoiltUptoRow : OpenClaim := { program := "ytgihdicidaipmaagreatdoor", sum := "e516269887198a9f54ecf1748e6fed5641c5f6ebd9b86d35085a4a1d53303c8a", func := "nacre/nacrelaw07.MouldSpoilt", spec := "mouldSpoilt", inPlace := ["internal/bytealg.CountString", "internal/bytealg.IndexByteString", "internal/bytealg.IndexString", "internal/abi.NoEscape", "internal/bytealg.MakeNoZero"], unfollowed := true, recurses := true, named := ["unicode/utf8.first", "unicode/utf8.acceptRanges", "internal/bytealg.MaxLen", "internal/strconv.uint64pow10", "math/bits.deBruijn32tab", "math/bits.deBruijn64tab"], plainKeys := false, apart := false, laid := [("math/bits.deBruijn32tab", laid_math_bits_deBruijn32tab), ("math/bits.deBruijn64tab", laid_math_bits_deBruijn64tab), ("internal/strconv.uint64pow10", laid_internal_strconv_uint64pow10), ("unicode/utf8.acceptRanges", laid_unicode_utf8_acceptRanges), ("unicode/utf8.first", laid_unicode_utf8_first)], narrowed := true }
def MouldSpoiltUptoSaid : Prop := mouldSpoiltUptoRow.holds Tryz.pinned (OpenSpec.upto mouldSpoiltSpec)

/-- 'nacrelaw07.MouldTrue', WHERE WHAT IT READS IS OF BULK AT MOST 1048576: true; the input reads as it did. -/
def mouldTrueUptoRow : OpenClaim := { program := "ytgihdicidaipmaagreatdoor", sum := "e516269887198a9f54ecf1748e6fed5641c5f6ebd9b86d35085a4a1d53303c8a", func := "nacre/nacrelaw07.MouldTrue", spec := "mouldTrue", inPlace := ["internal/bytealg.CountString", "internal/bytealg.IndexByteString", "internal/bytealg.IndexString", "internal/abi.NoEscape", "internal/bytealg.MakeNoZero"], unfollowed := true, recurses := true, named := ["unicode/utf8.first", "unicode/utf8.acceptRanges", "internal/bytealg.MaxLen", "internal/strconv.uint64pow10", "math/bits.deBruijn32tab", "math/bits.deBruijn64tab"], plainKeys := false, apart := false, laid := [("math/bits.deBruijn32tab", laid_math_bits_deBruijn32tab), ("math/bits.deBruijn64tab", laid_math_bits_deBruijn64tab), ("internal/strconv.uint64pow10", laid_internal_strconv_uint64pow10), ("unicode/utf8.acceptRanges", laid_unicode_utf8_acceptRanges), ("unicode/utf8.first", laid_unicode_utf8_first)], narrowed := true }
def MouldTrueUptoSaid : Prop := mouldTrueUptoRow.holds Tryz.pinned (OpenSpec.upto mouldTrueSpec)

/-- 'nacrelaw07.MouldStamped', WHERE WHAT IT READS IS OF BULK AT MOST 1048576: true; the input reads as it did. -/
def mouldStampedUptoRow : OpenClaim := { program := "ytgihdicidaipmaagreatdoor", sum := "e516269887198a9f54ecf1748e6fed5641c5f6ebd9b86d35085a4a1d53303c8a", func := "nacre/nacrelaw07.MouldStamped", spec := "mouldStamped", inPlace := ["internal/bytealg.CountString", "internal/bytealg.IndexByteString", "internal/bytealg.IndexString", "internal/abi.NoEscape", "internal/bytealg.MakeNoZero"], unfollowed := true, recurses := true, named := ["unicode/utf8.first", "unicode/utf8.acceptRanges", "internal/bytealg.MaxLen", "internal/strconv.uint64pow10", "math/bits.deBruijn32tab", "math/bits.deBruijn64tab"], plainKeys := false, apart := false, laid := [("math/bits.deBruijn32tab", laid_math_bits_deBruijn32tab), ("math/bits.deBruijn64tab", laid_math_bits_deBruijn64tab), ("internal/strconv.uint64pow10", laid_internal_strconv_uint64pow10), ("unicode/utf8.acceptRanges", laid_unicode_utf8_acceptRanges), ("unicode/utf8.first", laid_unicode_utf8_first)], narrowed := true }
def MouldStampedUptoSaid : Prop := mouldStampedUptoRow.holds Tryz.pinned (OpenSpec.upto mouldStampedSpec)

/-- 'nacrelaw07.MouldAgain', WHERE WHAT IT READS IS OF BULK AT MOST 1048576: true; the input reads as it did. -/
def mouldAgainUptoRow : OpenClaim := { program := "ytgihdicidaipmaagreatdoor", sum := "e516269887198a9f54ecf1748e6fed5641c5f6ebd9b86d35085a4a1d53303c8a", func := "nacre/nacrelaw07.MouldAgain", spec := "mouldAgain", inPlace := ["internal/bytealg.CountString", "internal/bytealg.IndexByteString", "internal/bytealg.IndexString", "internal/abi.NoEscape", "internal/bytealg.MakeNoZero"], unfollowed := true, recurses := true, named := ["unicode/utf8.first", "unicode/utf8.acceptRanges", "internal/bytealg.MaxLen", "internal/strconv.uint64pow10", "math/bits.deBruijn32tab", "math/bits.deBruijn64tab"], plainKeys := false, apart := false, laid := [("math/bits.deBruijn32tab", laid_math_bits_deBruijn32tab), ("math/bits.deBruijn64tab", laid_math_bits_deBruijn64tab), ("internal/strconv.uint64pow10", laid_internal_strconv_uint64pow10), ("unicode/utf8.acceptRanges", laid_unicode_utf8_acceptRanges), ("unicode/utf8.first", laid_unicode_utf8_first)], narrowed := true }
def MouldAgainUptoSaid : Prop := mouldAgainUptoRow.holds Tryz.pinned (OpenSpec.upto mouldAgainSpec)

/-- 'nacrelaw07.MouldProof', WHERE WHAT IT READS IS OF BULK AT MOST 1048576: true; the input reads as it did. -/
def mouldProofUptoRow : OpenClaim := { program := "ytgihdicidaipmaagreatdoor", sum := "e516269887198a9f54ecf1748e6fed5641c5f6ebd9b86d35085a4a1d53303c8a", func := "nacre/nacrelaw07.MouldProof", spec := "mouldProof", inPlace := ["internal/bytealg.CountString", "internal/bytealg.IndexByteString", "internal/bytealg.IndexString", "internal/abi.NoEscape", "internal/bytealg.MakeNoZero"], unfollowed := true, recurses := true, named := ["unicode/utf8.first", "unicode/utf8.acceptRanges", "internal/bytealg.MaxLen", "internal/strconv.uint64pow10", "math/bits.deBruijn32tab", "math/bits.deBruijn64tab"], plainKeys := false, apart := false, laid := [("math/bits.deBruijn32tab", laid_math_bits_deBruijn32tab), ("math/bits.deBruijn64tab", laid_math_bits_deBruijn64tab), ("internal/strconv.uint64pow10", laid_internal_strconv_uint64pow10), ("unicode/utf8.acceptRanges", laid_unicode_utf8_acceptRanges), ("unicode/utf8.first", laid_unicode_utf8_first)], narrowed := true }
def MouldProofUptoSaid : Prop := mouldProofUptoRow.holds Tryz.pinned (OpenSpec.upto mouldProofSpec)

/-- 'nacrelaw07.MouldTold', WHERE WHAT IT READS IS OF BULK AT MOST 1048576: true; the input reads as it did. -/
def mouldToldUptoRow : OpenClaim := { program := "ytgihdicidaipmaagreatdoor", sum := "e516269887198a9f54ecf1748e6fed5641c5f6ebd9b86d35085a4a1d53303c8a", func := "nacre/nacrelaw07.MouldTold", spec := "mouldTold", inPlace := ["internal/bytealg.CountString", "internal/bytealg.IndexByteString", "internal/bytealg.IndexString", "internal/abi.NoEscape", "internal/bytealg.MakeNoZero"], unfollowed := true, recurses := true, named := ["unicode/utf8.first", "unicode/utf8.acceptRanges", "internal/bytealg.MaxLen", "internal/strconv.uint64pow10", "math/bits.deBruijn32tab", "math/bits.deBruijn64tab"], plainKeys := false, apart := false, laid := [("math/bits.deBruijn32tab", laid_math_bits_deBruijn32tab), ("math/bits.deBruijn64tab", laid_math_bits_deBruijn64tab), ("internal/strconv.uint64pow10", laid_internal_strconv_uint64pow10), ("unicode/utf8.acceptRanges", laid_unicode_utf8_acceptRanges), ("unicode/utf8.first", laid_unicode_utf8_first)], narrowed := true }
def MouldToldUptoSaid : Prop := mouldToldUptoRow.holds Tryz.pinned (OpenSpec.upto mouldToldSpec)

/-- 'nacrelaw07.MouldMarks', WHERE WHAT IT READS IS OF BULK AT MOST 1048576: true; the input reads as it did. -/
def mouldMarksUptoRow : OpenClaim := { program := "ytgihdicidaipmaagreatdoor", sum := "e516269887198a9f54ecf1748e6fed5641c5f6ebd9b86d35085a4a1d53303c8a", func := "nacre/nacrelaw07.MouldMarks", spec := "mouldMarks", inPlace := ["internal/bytealg.CountString", "internal/bytealg.IndexByteString", "internal/bytealg.IndexString", "internal/abi.NoEscape", "internal/bytealg.MakeNoZero"], unfollowed := true, recurses := true, named := ["unicode/utf8.first", "unicode/utf8.acceptRanges", "internal/bytealg.MaxLen", "internal/strconv.uint64pow10", "math/bits.deBruijn32tab", "math/bits.deBruijn64tab"], plainKeys := false, apart := false, laid := [("math/bits.deBruijn32tab", laid_math_bits_deBruijn32tab), ("math/bits.deBruijn64tab", laid_math_bits_deBruijn64tab), ("internal/strconv.uint64pow10", laid_internal_strconv_uint64pow10), ("unicode/utf8.acceptRanges", laid_unicode_utf8_acceptRanges), ("unicode/utf8.first", laid_unicode_utf8_first)], narrowed := true }
def MouldMarksUptoSaid : Prop := mouldMarksUptoRow.holds Tryz.pinned (OpenSpec.upto mouldMarksSpec)

end Rows
end Go.Proofs.YtgihdicidaipmaaGreatDoor
