/-
  DERIVED. GIVEN WITH THE SEED: THE CARDS: each row of YtlhcjccaimmhgaaGreatDoorRows.lean that lists a variable, with what it lists TIED to the program's text (the seventh form; the later family's looks); each row that meets fmt, with fmt's text TOLD by the authors' own Lean function (tested against real Go, not proved from fmt's source: count such statements apart). THE CARD IS WHAT COUNTS. Prove the row's statement (the work); the ties are given (YtlhcjccaimmhgaaGreatDoorTie.lean); close each card by the builder's one call (the guide's Derived/Test/ToyasCard.lean, 'card_holds'). Laid BY PROGRAM, IN A SANDBOX (cutbox-door.mjs). By AI agents, Wed Nov 11 2026. No macro, syntax, notation, axiom, sorry.
-/
import Derived.Test.YtlhcjccaimmhgaaGreatDoorRows
import GoSem.ClaimSeven
namespace Go.Proofs.YtlhcjccaimmhgaaGreatDoor
namespace Rows

/-- THE TIED CARD OF 'nacrelaw02.DrillTurns'. -/
def drillTurnsCard : Claim7 := { stood := { row := drillTurnsRow, standIns := [], harness := (true, "b61a08fa8ce36e10ae208529fc07d9da226449fa0c1a03ee5c8317728ea357ba"), looks := true }, kinds := [], alts := [], laidByText := true, laidKinds := [.data, .data, .data], laidTests := true, laidLooks := .later }
def DrillTurnsCardSaid : Prop := Claim7.holds Tryz.pinned (.plain (OpenSpec.ofChange drillTurnsSpec)) drillTurnsCard

/-- THE TIED CARD OF 'nacrelaw02.DrillTurned'. -/
def drillTurnedCard : Claim7 := { stood := { row := drillTurnedRow, standIns := [], harness := (true, "b61a08fa8ce36e10ae208529fc07d9da226449fa0c1a03ee5c8317728ea357ba"), looks := true }, kinds := [], alts := [], laidByText := true, laidKinds := [.data, .data, .data], laidTests := true, laidLooks := .later }
def DrillTurnedCardSaid : Prop := Claim7.holds Tryz.pinned (.plain (OpenSpec.ofChange drillTurnedSpec)) drillTurnedCard

/-- THE TIED CARD OF 'nacrelaw02.DrillMatched'. -/
def drillMatchedCard : Claim7 := { stood := { row := drillMatchedRow, standIns := [], harness := (true, "b61a08fa8ce36e10ae208529fc07d9da226449fa0c1a03ee5c8317728ea357ba"), looks := true }, kinds := [], alts := [], laidByText := true, laidKinds := [.data, .data, .data], laidTests := true, laidLooks := .later }
def DrillMatchedCardSaid : Prop := Claim7.holds Tryz.pinned (.plain (OpenSpec.ofChange drillMatchedSpec)) drillMatchedCard

/-- THE TIED CARD OF 'nacrelaw02.DrillKnowns'. -/
def drillKnownsCard : Claim7 := { stood := { row := drillKnownsRow, standIns := [], harness := (true, "b61a08fa8ce36e10ae208529fc07d9da226449fa0c1a03ee5c8317728ea357ba"), looks := true }, kinds := [], alts := [], laidByText := true, laidKinds := [.data, .data, .data], laidTests := true, laidLooks := .later }
def DrillKnownsCardSaid : Prop := Claim7.holds Tryz.pinned (.plain (OpenSpec.ofChange drillKnownsSpec)) drillKnownsCard

/-- THE TIED CARD OF 'nacrelaw02.DrillSures'. -/
def drillSuresCard : Claim7 := { stood := { row := drillSuresRow, standIns := [], harness := (true, "b61a08fa8ce36e10ae208529fc07d9da226449fa0c1a03ee5c8317728ea357ba"), looks := true }, kinds := [], alts := [], laidByText := true, laidKinds := [.data, .data, .data], laidTests := true, laidLooks := .later }
def DrillSuresCardSaid : Prop := Claim7.holds Tryz.pinned (.plain (OpenSpec.ofChange drillSuresSpec)) drillSuresCard

/-- THE TIED CARD OF 'nacrelaw02.DrillGauges'. -/
def drillGaugesCard : Claim7 := { stood := { row := drillGaugesRow, standIns := [], harness := (true, "b61a08fa8ce36e10ae208529fc07d9da226449fa0c1a03ee5c8317728ea357ba"), looks := true }, kinds := [], alts := [], laidByText := true, laidKinds := [.data, .data, .data], laidTests := true, laidLooks := .later }
def DrillGaugesCardSaid : Prop := Claim7.holds Tryz.pinned (.plain (OpenSpec.ofChange drillGaugesSpec)) drillGaugesCard

/-- THE TIED CARD OF 'nacrelaw02.DrillTogethers'. -/
def drillTogethersCard : Claim7 := { stood := { row := drillTogethersRow, standIns := [], harness := (true, "b61a08fa8ce36e10ae208529fc07d9da226449fa0c1a03ee5c8317728ea357ba"), looks := true }, kinds := [], alts := [], laidByText := true, laidKinds := [.data, .data, .data], laidTests := true, laidLooks := .later }
def DrillTogethersCardSaid : Prop := Claim7.holds Tryz.pinned (.plain (OpenSpec.ofChange drillTogethersSpec)) drillTogethersCard

/-- THE TIED CARD OF 'nacrelaw02.DrillProves'. -/
def drillProvesCard : Claim7 := { stood := { row := drillProvesRow, standIns := [], harness := (true, "b61a08fa8ce36e10ae208529fc07d9da226449fa0c1a03ee5c8317728ea357ba"), looks := true }, kinds := [], alts := [], laidByText := true, laidKinds := [.data, .data, .data], laidTests := true, laidLooks := .later }
def DrillProvesCardSaid : Prop := Claim7.holds Tryz.pinned (.plain (OpenSpec.ofChange drillProvesSpec)) drillProvesCard

/-- THE TIED CARD OF 'nacrelaw02.DrillResets'. -/
def drillResetsCard : Claim7 := { stood := { row := drillResetsRow, standIns := [], harness := (true, "b61a08fa8ce36e10ae208529fc07d9da226449fa0c1a03ee5c8317728ea357ba"), looks := true }, kinds := [], alts := [], laidByText := true, laidKinds := [.data, .data, .data], laidTests := true, laidLooks := .later }
def DrillResetsCardSaid : Prop := Claim7.holds Tryz.pinned (.plain (OpenSpec.ofChange drillResetsSpec)) drillResetsCard

/-- THE TIED CARD OF 'nacrelaw02.DrillMoved'. -/
def drillMovedCard : Claim7 := { stood := { row := drillMovedRow, standIns := [], harness := (true, "b61a08fa8ce36e10ae208529fc07d9da226449fa0c1a03ee5c8317728ea357ba"), looks := true }, kinds := [], alts := [], laidByText := true, laidKinds := [.data, .data, .data], laidTests := true, laidLooks := .later }
def DrillMovedCardSaid : Prop := Claim7.holds Tryz.pinned (.plain (OpenSpec.ofChange drillMovedSpec)) drillMovedCard

/-- THE TIED CARD OF 'nacrelaw02.DrillMore'. -/
def drillMoreCard : Claim7 := { stood := { row := drillMoreRow, standIns := [], harness := (true, "b61a08fa8ce36e10ae208529fc07d9da226449fa0c1a03ee5c8317728ea357ba"), looks := true }, kinds := [], alts := [], laidByText := true, laidKinds := [.data, .data, .data], laidTests := true, laidLooks := .later }
def DrillMoreCardSaid : Prop := Claim7.holds Tryz.pinned (.plain (OpenSpec.ofChange drillMoreSpec)) drillMoreCard

/-- THE TIED CARD OF 'nacrelaw02.DrillMatches'. -/
def drillMatchesCard : Claim7 := { stood := { row := drillMatchesRow, standIns := [], harness := (true, "b61a08fa8ce36e10ae208529fc07d9da226449fa0c1a03ee5c8317728ea357ba"), looks := true }, kinds := [], alts := [], laidByText := true, laidKinds := [.data, .data, .data], laidTests := true, laidLooks := .later }
def DrillMatchesCardSaid : Prop := Claim7.holds Tryz.pinned (.plain (OpenSpec.ofChange drillMatchesSpec)) drillMatchesCard

/-- THE TIED CARD OF 'nacrelaw02.DrillCoulds'. -/
def drillCouldsCard : Claim7 := { stood := { row := drillCouldsRow, standIns := [], harness := (true, "b61a08fa8ce36e10ae208529fc07d9da226449fa0c1a03ee5c8317728ea357ba"), looks := true }, kinds := [], alts := [], laidByText := true, laidKinds := [.data, .data, .data], laidTests := true, laidLooks := .later }
def DrillCouldsCardSaid : Prop := Claim7.holds Tryz.pinned (.plain (OpenSpec.ofChange drillCouldsSpec)) drillCouldsCard

/-- THE TIED CARD OF 'nacrelaw02.DrillGood'. -/
def drillGoodCard : Claim7 := { stood := { row := drillGoodRow, standIns := [], harness := (true, "b61a08fa8ce36e10ae208529fc07d9da226449fa0c1a03ee5c8317728ea357ba"), looks := true }, kinds := [], alts := [], laidByText := true, laidKinds := [.data, .data, .data], laidTests := true, laidLooks := .later }
def DrillGoodCardSaid : Prop := Claim7.holds Tryz.pinned (.plain (OpenSpec.ofChange drillGoodSpec)) drillGoodCard

/-- THE TIED CARD OF 'nacrelaw02.DrillFirst'. -/
def drillFirstCard : Claim7 := { stood := { row := drillFirstRow, standIns := [], harness := (true, "b61a08fa8ce36e10ae208529fc07d9da226449fa0c1a03ee5c8317728ea357ba"), looks := true }, kinds := [], alts := [], laidByText := true, laidKinds := [.data, .data, .data], laidTests := true, laidLooks := .later }
def DrillFirstCardSaid : Prop := Claim7.holds Tryz.pinned (.plain (OpenSpec.ofChange drillFirstSpec)) drillFirstCard

/-- THE TIED CARD OF 'nacrelaw02.DrillReached'. -/
def drillReachedCard : Claim7 := { stood := { row := drillReachedRow, standIns := [], harness := (true, "b61a08fa8ce36e10ae208529fc07d9da226449fa0c1a03ee5c8317728ea357ba"), looks := true }, kinds := [], alts := [], laidByText := true, laidKinds := [.data, .data, .data], laidTests := true, laidLooks := .later }
def DrillReachedCardSaid : Prop := Claim7.holds Tryz.pinned (.plain (OpenSpec.ofChange drillReachedSpec)) drillReachedCard

/-- THE TIED CARD OF 'nacrelaw02.DrillRuns'. -/
def drillRunsCard : Claim7 := { stood := { row := drillRunsRow, standIns := [], harness := (true, "b61a08fa8ce36e10ae208529fc07d9da226449fa0c1a03ee5c8317728ea357ba"), looks := true }, kinds := [], alts := [], laidByText := true, laidKinds := [.data, .data, .data], laidTests := true, laidLooks := .later }
def DrillRunsCardSaid : Prop := Claim7.holds Tryz.pinned (.plain (OpenSpec.ofChange drillRunsSpec)) drillRunsCard

/-- THE TIED CARD OF 'nacrelaw02.DrillTrue'. -/
def drillTrueCard : Claim7 := { stood := { row := drillTrueRow, standIns := [], harness := (true, "b61a08fa8ce36e10ae208529fc07d9da226449fa0c1a03ee5c8317728ea357ba"), looks := true }, kinds := [], alts := [], laidByText := true, laidKinds := [.data, .data, .data], laidTests := true, laidLooks := .later }
def DrillTrueCardSaid : Prop := Claim7.holds Tryz.pinned (.plain (OpenSpec.ofChange drillTrueSpec)) drillTrueCard

/-- THE TIED CARD OF 'nacrelaw02.DrillFound'. -/
def drillFoundCard : Claim7 := { stood := { row := drillFoundRow, standIns := [], harness := (true, "b61a08fa8ce36e10ae208529fc07d9da226449fa0c1a03ee5c8317728ea357ba"), looks := true }, kinds := [], alts := [], laidByText := true, laidKinds := [.data, .data, .data], laidTests := true, laidLooks := .later }
def DrillFoundCardSaid : Prop := Claim7.holds Tryz.pinned (.plain (OpenSpec.ofChange drillFoundSpec)) drillFoundCard

/-- THE TIED CARD OF 'nacrelaw02.DrillPrints'. -/
def drillPrintsCard : Claim7 := { stood := { row := drillPrintsRow, standIns := [], harness := (true, "b61a08fa8ce36e10ae208529fc07d9da226449fa0c1a03ee5c8317728ea357ba"), looks := true }, kinds := [], alts := [], laidByText := true, laidKinds := [.data, .data, .data, .data, .pinned], laidTests := true, laidLooks := .later }
def DrillPrintsCardSaid : Prop := Claim7.holds Tryz.pinned (.plain (OpenSpec.ofChange drillPrintsSpec)) drillPrintsCard

/-- THE TIED CARD OF 'nacrelaw02.DrillReads'. -/
def drillReadsCard : Claim7 := { stood := { row := drillReadsRow, standIns := [], harness := (true, "b61a08fa8ce36e10ae208529fc07d9da226449fa0c1a03ee5c8317728ea357ba"), looks := true }, kinds := [], alts := [], laidByText := true, laidKinds := [.data, .data, .data, .data, .pinned], laidTests := true, laidLooks := .later }
def DrillReadsCardSaid : Prop := Claim7.holds Tryz.pinned (.plain (OpenSpec.ofChange drillReadsSpec)) drillReadsCard

/-- THE TIED CARD OF 'nacrelaw02.DrillSpoilt'. -/
def drillSpoiltCard : Claim7 := { stood := { row := drillSpoiltRow, standIns := [], harness := (true, "b61a08fa8ce36e10ae208529fc07d9da226449fa0c1a03ee5c8317728ea357ba"), looks := true }, kinds := [], alts := [], laidByText := true, laidKinds := [.data, .data, .data, .data, .pinned], laidTests := true, laidLooks := .later }
def DrillSpoiltCardSaid : Prop := Claim7.holds Tryz.pinned (.plain (OpenSpec.ofChange drillSpoiltSpec)) drillSpoiltCard

/-- THE SECOND FORM's CARD OF 'nacrelaw02.DrillTurns'. -/
def drillTurnsUptoCard : Claim7 := { stood := { row := drillTurnsUptoRow, standIns := [], harness := (true, "b61a08fa8ce36e10ae208529fc07d9da226449fa0c1a03ee5c8317728ea357ba"), looks := true }, kinds := [], alts := [], laidByText := true, laidKinds := [.data, .data, .data], laidTests := true, laidLooks := .later }
def DrillTurnsUptoCardSaid : Prop := Claim7.holds Tryz.pinned (.plain (OpenSpec.upto drillTurnsSpec)) drillTurnsUptoCard

/-- THE SECOND FORM's CARD OF 'nacrelaw02.DrillTurned'. -/
def drillTurnedUptoCard : Claim7 := { stood := { row := drillTurnedUptoRow, standIns := [], harness := (true, "b61a08fa8ce36e10ae208529fc07d9da226449fa0c1a03ee5c8317728ea357ba"), looks := true }, kinds := [], alts := [], laidByText := true, laidKinds := [.data, .data, .data], laidTests := true, laidLooks := .later }
def DrillTurnedUptoCardSaid : Prop := Claim7.holds Tryz.pinned (.plain (OpenSpec.upto drillTurnedSpec)) drillTurnedUptoCard

/-- THE SECOND FORM's CARD OF 'nacrelaw02.DrillMatched'. -/
def drillMatchedUptoCard : Claim7 := { stood := { row := drillMatchedUptoRow, standIns := [], harness := (true, "b61a08fa8ce36e10ae208529fc07d9da226449fa0c1a03ee5c8317728ea357ba"), looks := true }, kinds := [], alts := [], laidByText := true, laidKinds := [.data, .data, .data], laidTests := true, laidLooks := .later }
def DrillMatchedUptoCardSaid : Prop := Claim7.holds Tryz.pinned (.plain (OpenSpec.upto drillMatchedSpec)) drillMatchedUptoCard

/-- THE SECOND FORM's CARD OF 'nacrelaw02.DrillKnowns'. -/
def drillKnownsUptoCard : Claim7 := { stood := { row := drillKnownsUptoRow, standIns := [], harness := (true, "b61a08fa8ce36e10ae208529fc07d9da226449fa0c1a03ee5c8317728ea357ba"), looks := true }, kinds := [], alts := [], laidByText := true, laidKinds := [.data, .data, .data], laidTests := true, laidLooks := .later }
def DrillKnownsUptoCardSaid : Prop := Claim7.holds Tryz.pinned (.plain (OpenSpec.upto drillKnownsSpec)) drillKnownsUptoCard

/-- THE SECOND FORM's CARD OF 'nacrelaw02.DrillSures'. -/
def drillSuresUptoCard : Claim7 := { stood := { row := drillSuresUptoRow, standIns := [], harness := (true, "b61a08fa8ce36e10ae208529fc07d9da226449fa0c1a03ee5c8317728ea357ba"), looks := true }, kinds := [], alts := [], laidByText := true, laidKinds := [.data, .data, .data], laidTests := true, laidLooks := .later }
def DrillSuresUptoCardSaid : Prop := Claim7.holds Tryz.pinned (.plain (OpenSpec.upto drillSuresSpec)) drillSuresUptoCard

/-- THE SECOND FORM's CARD OF 'nacrelaw02.DrillGauges'. -/
def drillGaugesUptoCard : Claim7 := { stood := { row := drillGaugesUptoRow, standIns := [], harness := (true, "b61a08fa8ce36e10ae208529fc07d9da226449fa0c1a03ee5c8317728ea357ba"), looks := true }, kinds := [], alts := [], laidByText := true, laidKinds := [.data, .data, .data], laidTests := true, laidLooks := .later }
def DrillGaugesUptoCardSaid : Prop := Claim7.holds Tryz.pinned (.plain (OpenSpec.upto drillGaugesSpec)) drillGaugesUptoCard

/-- THE SECOND FORM's CARD OF 'nacrelaw02.DrillTogethers'. -/
def drillTogethersUptoCard : Claim7 := { stood := { row := drillTogethersUptoRow, standIns := [], harness := (true, "b61a08fa8ce36e10ae208529fc07d9da226449fa0c1a03ee5c8317728ea357ba"), looks := true }, kinds := [], alts := [], laidByText := true, laidKinds := [.data, .data, .data], laidTests := true, laidLooks := .later }
def DrillTogethersUptoCardSaid : Prop := Claim7.holds Tryz.pinned (.plain (OpenSpec.upto drillTogethersSpec)) drillTogethersUptoCard

/-- THE SECOND FORM's CARD OF 'nacrelaw02.DrillProves'. -/
def drillProvesUptoCard : Claim7 := { stood := { row := drillProvesUptoRow, standIns := [], harness := (true, "b61a08fa8ce36e10ae208529fc07d9da226449fa0c1a03ee5c8317728ea357ba"), looks := true }, kinds := [], alts := [], laidByText := true, laidKinds := [.data, .data, .data], laidTests := true, laidLooks := .later }
def DrillProvesUptoCardSaid : Prop := Claim7.holds Tryz.pinned (.plain (OpenSpec.upto drillProvesSpec)) drillProvesUptoCard

/-- THE SECOND FORM's CARD OF 'nacrelaw02.DrillResets'. -/
def drillResetsUptoCard : Claim7 := { stood := { row := drillResetsUptoRow, standIns := [], harness := (true, "b61a08fa8ce36e10ae208529fc07d9da226449fa0c1a03ee5c8317728ea357ba"), looks := true }, kinds := [], alts := [], laidByText := true, laidKinds := [.data, .data, .data], laidTests := true, laidLooks := .later }
def DrillResetsUptoCardSaid : Prop := Claim7.holds Tryz.pinned (.plain (OpenSpec.upto drillResetsSpec)) drillResetsUptoCard

/-- THE SECOND FORM's CARD OF 'nacrelaw02.DrillMoved'. -/
def drillMovedUptoCard : Claim7 := { stood := { row := drillMovedUptoRow, standIns := [], harness := (true, "b61a08fa8ce36e10ae208529fc07d9da226449fa0c1a03ee5c8317728ea357ba"), looks := true }, kinds := [], alts := [], laidByText := true, laidKinds := [.data, .data, .data], laidTests := true, laidLooks := .later }
def DrillMovedUptoCardSaid : Prop := Claim7.holds Tryz.pinned (.plain (OpenSpec.upto drillMovedSpec)) drillMovedUptoCard

/-- THE SECOND FORM's CARD OF 'nacrelaw02.DrillMore'. -/
def drillMoreUptoCard : Claim7 := { stood := { row := drillMoreUptoRow, standIns := [], harness := (true, "b61a08fa8ce36e10ae208529fc07d9da226449fa0c1a03ee5c8317728ea357ba"), looks := true }, kinds := [], alts := [], laidByText := true, laidKinds := [.data, .data, .data], laidTests := true, laidLooks := .later }
def DrillMoreUptoCardSaid : Prop := Claim7.holds Tryz.pinned (.plain (OpenSpec.upto drillMoreSpec)) drillMoreUptoCard

/-- THE SECOND FORM's CARD OF 'nacrelaw02.DrillMatches'. -/
def drillMatchesUptoCard : Claim7 := { stood := { row := drillMatchesUptoRow, standIns := [], harness := (true, "b61a08fa8ce36e10ae208529fc07d9da226449fa0c1a03ee5c8317728ea357ba"), looks := true }, kinds := [], alts := [], laidByText := true, laidKinds := [.data, .data, .data], laidTests := true, laidLooks := .later }
def DrillMatchesUptoCardSaid : Prop := Claim7.holds Tryz.pinned (.plain (OpenSpec.upto drillMatchesSpec)) drillMatchesUptoCard

/-- THE SECOND FORM's CARD OF 'nacrelaw02.DrillCoulds'. -/
def drillCouldsUptoCard : Claim7 := { stood := { row := drillCouldsUptoRow, standIns := [], harness := (true, "b61a08fa8ce36e10ae208529fc07d9da226449fa0c1a03ee5c8317728ea357ba"), looks := true }, kinds := [], alts := [], laidByText := true, laidKinds := [.data, .data, .data], laidTests := true, laidLooks := .later }
def DrillCouldsUptoCardSaid : Prop := Claim7.holds Tryz.pinned (.plain (OpenSpec.upto drillCouldsSpec)) drillCouldsUptoCard

/-- THE SECOND FORM's CARD OF 'nacrelaw02.DrillGood'. -/
def drillGoodUptoCard : Claim7 := { stood := { row := drillGoodUptoRow, standIns := [], harness := (true, "b61a08fa8ce36e10ae208529fc07d9da226449fa0c1a03ee5c8317728ea357ba"), looks := true }, kinds := [], alts := [], laidByText := true, laidKinds := [.data, .data, .data], laidTests := true, laidLooks := .later }
def DrillGoodUptoCardSaid : Prop := Claim7.holds Tryz.pinned (.plain (OpenSpec.upto drillGoodSpec)) drillGoodUptoCard

/-- THE SECOND FORM's CARD OF 'nacrelaw02.DrillFirst'. -/
def drillFirstUptoCard : Claim7 := { stood := { row := drillFirstUptoRow, standIns := [], harness := (true, "b61a08fa8ce36e10ae208529fc07d9da226449fa0c1a03ee5c8317728ea357ba"), looks := true }, kinds := [], alts := [], laidByText := true, laidKinds := [.data, .data, .data], laidTests := true, laidLooks := .later }
def DrillFirstUptoCardSaid : Prop := Claim7.holds Tryz.pinned (.plain (OpenSpec.upto drillFirstSpec)) drillFirstUptoCard

/-- THE SECOND FORM's CARD OF 'nacrelaw02.DrillReached'. -/
def drillReachedUptoCard : Claim7 := { stood := { row := drillReachedUptoRow, standIns := [], harness := (true, "b61a08fa8ce36e10ae208529fc07d9da226449fa0c1a03ee5c8317728ea357ba"), looks := true }, kinds := [], alts := [], laidByText := true, laidKinds := [.data, .data, .data], laidTests := true, laidLooks := .later }
def DrillReachedUptoCardSaid : Prop := Claim7.holds Tryz.pinned (.plain (OpenSpec.upto drillReachedSpec)) drillReachedUptoCard

/-- THE SECOND FORM's CARD OF 'nacrelaw02.DrillRuns'. -/
def drillRunsUptoCard : Claim7 := { stood := { row := drillRunsUptoRow, standIns := [], harness := (true, "b61a08fa8ce36e10ae208529fc07d9da226449fa0c1a03ee5c8317728ea357ba"), looks := true }, kinds := [], alts := [], laidByText := true, laidKinds := [.data, .data, .data], laidTests := true, laidLooks := .later }
def DrillRunsUptoCardSaid : Prop := Claim7.holds Tryz.pinned (.plain (OpenSpec.upto drillRunsSpec)) drillRunsUptoCard

/-- THE SECOND FORM's CARD OF 'nacrelaw02.DrillTrue'. -/
def drillTrueUptoCard : Claim7 := { stood := { row := drillTrueUptoRow, standIns := [], harness := (true, "b61a08fa8ce36e10ae208529fc07d9da226449fa0c1a03ee5c8317728ea357ba"), looks := true }, kinds := [], alts := [], laidByText := true, laidKinds := [.data, .data, .data], laidTests := true, laidLooks := .later }
def DrillTrueUptoCardSaid : Prop := Claim7.holds Tryz.pinned (.plain (OpenSpec.upto drillTrueSpec)) drillTrueUptoCard

/-- THE SECOND FORM's CARD OF 'nacrelaw02.DrillFound'. -/
def drillFoundUptoCard : Claim7 := { stood := { row := drillFoundUptoRow, standIns := [], harness := (true, "b61a08fa8ce36e10ae208529fc07d9da226449fa0c1a03ee5c8317728ea357ba"), looks := true }, kinds := [], alts := [], laidByText := true, laidKinds := [.data, .data, .data], laidTests := true, laidLooks := .later }
def DrillFoundUptoCardSaid : Prop := Claim7.holds Tryz.pinned (.plain (OpenSpec.upto drillFoundSpec)) drillFoundUptoCard

/-- THE SECOND FORM's CARD OF 'nacrelaw02.DrillPrints'. -/
def drillPrintsUptoCard : Claim7 := { stood := { row := drillPrintsUptoRow, standIns := [], harness := (true, "b61a08fa8ce36e10ae208529fc07d9da226449fa0c1a03ee5c8317728ea357ba"), looks := true }, kinds := [], alts := [], laidByText := true, laidKinds := [.data, .data, .data, .data, .pinned], laidTests := true, laidLooks := .later }
def DrillPrintsUptoCardSaid : Prop := Claim7.holds Tryz.pinned (.plain (OpenSpec.upto drillPrintsSpec)) drillPrintsUptoCard

/-- THE SECOND FORM's CARD OF 'nacrelaw02.DrillReads'. -/
def drillReadsUptoCard : Claim7 := { stood := { row := drillReadsUptoRow, standIns := [], harness := (true, "b61a08fa8ce36e10ae208529fc07d9da226449fa0c1a03ee5c8317728ea357ba"), looks := true }, kinds := [], alts := [], laidByText := true, laidKinds := [.data, .data, .data, .data, .pinned], laidTests := true, laidLooks := .later }
def DrillReadsUptoCardSaid : Prop := Claim7.holds Tryz.pinned (.plain (OpenSpec.upto drillReadsSpec)) drillReadsUptoCard

/-- THE SECOND FORM's CARD OF 'nacrelaw02.DrillSpoilt'. -/
def drillSpoiltUptoCard : Claim7 := { stood := { row := drillSpoiltUptoRow, standIns := [], harness := (true, "b61a08fa8ce36e10ae208529fc07d9da226449fa0c1a03ee5c8317728ea357ba"), looks := true }, kinds := [], alts := [], laidByText := true, laidKinds := [.data, .data, .data, .data, .pinned], laidTests := true, laidLooks := .later }
def DrillSpoiltUptoCardSaid : Prop := Claim7.holds Tryz.pinned (.plain (OpenSpec.upto drillSpoiltSpec)) drillSpoiltUptoCard
end Rows
end Go.Proofs.YtlhcjccaimmhgaaGreatDoor
