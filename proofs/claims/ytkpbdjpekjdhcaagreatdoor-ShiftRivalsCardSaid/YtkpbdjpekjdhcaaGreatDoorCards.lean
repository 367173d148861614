/-
  DERIVED. GIVEN WITH THE SEED: THE CARDS: each row of YtkpbdjpekjdhcaaGreatDoorRows.lean that lists a variable, with what it lists TIED to the program's text (the seventh form; the later family's looks); each row that meets fmt, with fmt's text TOLD by the authors' own Lean function (tested against real Go, not proved from fmt's source: count such statements apart). THE CARD IS WHAT COUNTS. Prove the row's statement (the work); the ties are given (YtkpbdjpekjdhcaaGreatDoorTie.lean); close each card by the builder's one call (the guide's Derived/Test/ToyasCard.lean, 'card_holds'). Laid BY PROGRAM, IN A SANDBOX (cutbox-door.mjs). By AI agents, Wed Nov 11 2026. No macro, syntax, notation, axiom, sorry.
-/
import Derived.Test.YtkpbdjpekjdhcaaGreatDoorRows
import GoSem.ClaimSeven
namespace Go.Proofs.YtkpbdjpekjdhcaaGreatDoor
namespace Rows

/-- THE TIED CARD OF 'nacrelaw05.ShiftKnowns'. -/
def shiftKnownsCard : Claim7 := { stood := { row := shiftKnownsRow, standIns := [], harness := (true, "3790dbe7c969a99d29e58b9f33dbbd4b1fc1d34e5e69bc51fcfea29329c8fa80"), looks := true }, kinds := [], alts := [], laidByText := true, laidKinds := [.data, .data, .data, .data, .pinned], laidTests := true, laidLooks := .later }
def ShiftKnownsCardSaid : Prop := Claim7.holds Tryz.pinned (.plain (OpenSpec.ofChange shiftKnownsSpec)) shiftKnownsCard

/-- THE TIED CARD OF 'nacrelaw05.ShiftRosters'. -/
def shiftRostersCard : Claim7 := { stood := { row := shiftRostersRow, standIns := [], harness := (true, "3790dbe7c969a99d29e58b9f33dbbd4b1fc1d34e5e69bc51fcfea29329c8fa80"), looks := true }, kinds := [], alts := [], laidByText := true, laidKinds := [.data, .data, .data, .data, .pinned], laidTests := true, laidLooks := .later }
def ShiftRostersCardSaid : Prop := Claim7.holds Tryz.pinned (.plain (OpenSpec.ofChange shiftRostersSpec)) shiftRostersCard

/-- THE TIED CARD OF 'nacrelaw05.ShiftWheres'. -/
def shiftWheresCard : Claim7 := { stood := { row := shiftWheresRow, standIns := [], harness := (true, "3790dbe7c969a99d29e58b9f33dbbd4b1fc1d34e5e69bc51fcfea29329c8fa80"), looks := true }, kinds := [], alts := [], laidByText := true, laidKinds := [.data, .data, .data, .data, .pinned], laidTests := true, laidLooks := .later }
def ShiftWheresCardSaid : Prop := Claim7.holds Tryz.pinned (.plain (OpenSpec.ofChange shiftWheresSpec)) shiftWheresCard

/-- THE TIED CARD OF 'nacrelaw05.ShiftMades'. -/
def shiftMadesCard : Claim7 := { stood := { row := shiftMadesRow, standIns := [], harness := (true, "3790dbe7c969a99d29e58b9f33dbbd4b1fc1d34e5e69bc51fcfea29329c8fa80"), looks := true }, kinds := [], alts := [], laidByText := true, laidKinds := [.data, .data, .data, .data, .pinned], laidTests := true, laidLooks := .later }
def ShiftMadesCardSaid : Prop := Claim7.holds Tryz.pinned (.plain (OpenSpec.ofChange shiftMadesSpec)) shiftMadesCard

/-- THE TIED CARD OF 'nacrelaw05.ShiftPrints'. -/
def shiftPrintsCard : Claim7 := { stood := { row := shiftPrintsRow, standIns := [], harness := (true, "3790dbe7c969a99d29e58b9f33dbbd4b1fc1d34e5e69bc51fcfea29329c8fa80"), looks := true }, kinds := [], alts := [], laidByText := true, laidKinds := [.data, .data, .data, .data, .pinned], laidTests := true, laidLooks := .later }
def ShiftPrintsCardSaid : Prop := Claim7.holds Tryz.pinned (.plain (OpenSpec.ofChange shiftPrintsSpec)) shiftPrintsCard

/-- THE TIED CARD OF 'nacrelaw05.ShiftReads'. -/
def shiftReadsCard : Claim7 := { stood := { row := shiftReadsRow, standIns := [], harness := (true, "3790dbe7c969a99d29e58b9f33dbbd4b1fc1d34e5e69bc51fcfea29329c8fa80"), looks := true }, kinds := [], alts := [], laidByText := true, laidKinds := [.data, .data, .data, .data, .pinned], laidTests := true, laidLooks := .later }
def ShiftReadsCardSaid : Prop := Claim7.holds Tryz.pinned (.plain (OpenSpec.ofChange shiftReadsSpec)) shiftReadsCard

/-- THE TIED CARD OF 'nacrelaw05.ShiftSpoilt'. -/
def shiftSpoiltCard : Claim7 := { stood := { row := shiftSpoiltRow, standIns := [], harness := (true, "3790dbe7c969a99d29e58b9f33dbbd4b1fc1d34e5e69bc51fcfea29329c8fa80"), looks := true }, kinds := [], alts := [], laidByText := true, laidKinds := [.data, .data, .data, .data, .pinned], laidTests := true, laidLooks := .later }
def ShiftSpoiltCardSaid : Prop := Claim7.holds Tryz.pinned (.plain (OpenSpec.ofChange shiftSpoiltSpec)) shiftSpoiltCard

/-- THE TIED CARD OF 'nacrelaw05.ShiftOrders'. -/
def shiftOrdersCard : Claim7 := { stood := { row := shiftOrdersRow, standIns := [], harness := (true, "3790dbe7c969a99d29e58b9f33dbbd4b1fc1d34e5e69bc51fcfea29329c8fa80"), looks := true }, kinds := [], alts := [], laidByText := true, laidKinds := [.data, .data, .data, .data, .pinned], laidTests := true, laidLooks := .later }
def ShiftOrdersCardSaid : Prop := Claim7.holds Tryz.pinned (.plain (OpenSpec.ofChange shiftOrdersSpec)) shiftOrdersCard

/-- THE TIED CARD OF 'nacrelaw05.ShiftStaffs'. -/
def shiftStaffsCard : Claim7 := { stood := { row := shiftStaffsRow, standIns := [], harness := (true, "3790dbe7c969a99d29e58b9f33dbbd4b1fc1d34e5e69bc51fcfea29329c8fa80"), looks := true }, kinds := [], alts := [], laidByText := true, laidKinds := [.data, .data, .data, .data, .pinned], laidTests := true, laidLooks := .later }
def ShiftStaffsCardSaid : Prop := Claim7.holds Tryz.pinned (.plain (OpenSpec.ofChange shiftStaffsSpec)) shiftStaffsCard

/-- THE TIED CARD OF 'nacrelaw05.ShiftRivals'. -/
def shiftRivalsCard : Claim7 := { stood := { row := shiftRivalsRow, standIns := [], harness := (true, "3790dbe7c969a99d29e58b9f33dbbd4b1fc1d34e5e69bc51fcfea29329c8fa80"), looks := true }, kinds := [], alts := [], laidByText := true, laidKinds := [.data, .data, .data, .data, .pinned], laidTests := true, laidLooks := .later }
def ShiftRivalsCardSaid : Prop := Claim7.holds Tryz.pinned (.plain (OpenSpec.ofChange shiftRivalsSpec)) shiftRivalsCard

/-- THE TIED CARD OF 'nacrelaw05.ShiftBreathes'. -/
def shiftBreathesCard : Claim7 := { stood := { row := shiftBreathesRow, standIns := [], harness := (true, "3790dbe7c969a99d29e58b9f33dbbd4b1fc1d34e5e69bc51fcfea29329c8fa80"), looks := true }, kinds := [], alts := [], laidByText := true, laidKinds := [.data, .data, .data, .data, .pinned], laidTests := true, laidLooks := .later }
def ShiftBreathesCardSaid : Prop := Claim7.holds Tryz.pinned (.plain (OpenSpec.ofChange shiftBreathesSpec)) shiftBreathesCard

/-- THE TIED CARD OF 'nacrelaw05.ShiftAny'. -/
def shiftAnyCard : Claim7 := { stood := { row := shiftAnyRow, standIns := [], harness := (true, "3790dbe7c969a99d29e58b9f33dbbd4b1fc1d34e5e69bc51fcfea29329c8fa80"), looks := true }, kinds := [], alts := [], laidByText := true, laidKinds := [.data, .data, .data, .data, .pinned], laidTests := true, laidLooks := .later }
def ShiftAnyCardSaid : Prop := Claim7.holds Tryz.pinned (.plain (OpenSpec.ofChange shiftAnySpec)) shiftAnyCard

/-- THE TIED CARD OF 'nacrelaw05.ShiftMore'. -/
def shiftMoreCard : Claim7 := { stood := { row := shiftMoreRow, standIns := [], harness := (true, "3790dbe7c969a99d29e58b9f33dbbd4b1fc1d34e5e69bc51fcfea29329c8fa80"), looks := true }, kinds := [], alts := [], laidByText := true, laidKinds := [.data, .data, .data, .data, .pinned], laidTests := true, laidLooks := .later }
def ShiftMoreCardSaid : Prop := Claim7.holds Tryz.pinned (.plain (OpenSpec.ofChange shiftMoreSpec)) shiftMoreCard

/-- THE TIED CARD OF 'nacrelaw05.ShiftTrue'. -/
def shiftTrueCard : Claim7 := { stood := { row := shiftTrueRow, standIns := [], harness := (true, "3790dbe7c969a99d29e58b9f33dbbd4b1fc1d34e5e69bc51fcfea29329c8fa80"), looks := true }, kinds := [], alts := [], laidByText := true, laidKinds := [.data, .data, .data, .data, .pinned], laidTests := true, laidLooks := .later }
def ShiftTrueCardSaid : Prop := Claim7.holds Tryz.pinned (.plain (OpenSpec.ofChange shiftTrueSpec)) shiftTrueCard

/-- THE TIED CARD OF 'nacrelaw05.ShiftAir'. -/
def shiftAirCard : Claim7 := { stood := { row := shiftAirRow, standIns := [], harness := (true, "3790dbe7c969a99d29e58b9f33dbbd4b1fc1d34e5e69bc51fcfea29329c8fa80"), looks := true }, kinds := [], alts := [], laidByText := true, laidKinds := [.data, .data, .data, .data, .pinned], laidTests := true, laidLooks := .later }
def ShiftAirCardSaid : Prop := Claim7.holds Tryz.pinned (.plain (OpenSpec.ofChange shiftAirSpec)) shiftAirCard

/-- THE TIED CARD OF 'nacrelaw05.ShiftLost'. -/
def shiftLostCard : Claim7 := { stood := { row := shiftLostRow, standIns := [], harness := (true, "3790dbe7c969a99d29e58b9f33dbbd4b1fc1d34e5e69bc51fcfea29329c8fa80"), looks := true }, kinds := [], alts := [], laidByText := true, laidKinds := [.data, .data, .data, .data, .pinned], laidTests := true, laidLooks := .later }
def ShiftLostCardSaid : Prop := Claim7.holds Tryz.pinned (.plain (OpenSpec.ofChange shiftLostSpec)) shiftLostCard

/-- THE TIED CARD OF 'nacrelaw05.ShiftWas'. -/
def shiftWasCard : Claim7 := { stood := { row := shiftWasRow, standIns := [], harness := (true, "3790dbe7c969a99d29e58b9f33dbbd4b1fc1d34e5e69bc51fcfea29329c8fa80"), looks := true }, kinds := [], alts := [], laidByText := true, laidKinds := [.data, .data, .data, .data, .pinned], laidTests := true, laidLooks := .later }
def ShiftWasCardSaid : Prop := Claim7.holds Tryz.pinned (.plain (OpenSpec.ofChange shiftWasSpec)) shiftWasCard

/-- THE TIED CARD OF 'nacrelaw05.ShiftRuns'. -/
def shiftRunsCard : Claim7 := { stood := { row := shiftRunsRow, standIns := [], harness := (true, "3790dbe7c969a99d29e58b9f33dbbd4b1fc1d34e5e69bc51fcfea29329c8fa80"), looks := true }, kinds := [], alts := [], laidByText := true, laidKinds := [.data, .data, .data, .data, .pinned], laidTests := true, laidLooks := .later }
def ShiftRunsCardSaid : Prop := Claim7.holds Tryz.pinned (.plain (OpenSpec.ofChange shiftRunsSpec)) shiftRunsCard

/-- THE SECOND FORM's CARD OF 'nacrelaw05.ShiftKnowns'. -/
def shiftKnownsUptoCard : Claim7 := { stood := { row := shiftKnownsUptoRow, standIns := [], harness := (true, "3790dbe7c969a99d29e58b9f33dbbd4b1fc1d34e5e69bc51fcfea29329c8fa80"), looks := true }, kinds := [], alts := [], laidByText := true, laidKinds := [.data, .data, .data, .data, .pinned], laidTests := true, laidLooks := .later }
def ShiftKnownsUptoCardSaid : Prop := Claim7.holds Tryz.pinned (.plain (OpenSpec.upto shiftKnownsSpec)) shiftKnownsUptoCard

/-- THE SECOND FORM's CARD OF 'nacrelaw05.ShiftRosters'. -/
def shiftRostersUptoCard : Claim7 := { stood := { row := shiftRostersUptoRow, standIns := [], harness := (true, "3790dbe7c969a99d29e58b9f33dbbd4b1fc1d34e5e69bc51fcfea29329c8fa80"), looks := true }, kinds := [], alts := [], laidByText := true, laidKinds := [.data, .data, .data, .data, .pinned], laidTests := true, laidLooks := .later }
def ShiftRostersUptoCardSaid : Prop := Claim7.holds Tryz.pinned (.plain (OpenSpec.upto shiftRostersSpec)) shiftRostersUptoCard

/-- THE SECOND FORM's CARD OF 'nacrelaw05.ShiftWheres'. -/
def shiftWheresUptoCard : Claim7 := { stood := { row := shiftWheresUptoRow, standIns := [], harness := (true, "3790dbe7c969a99d29e58b9f33dbbd4b1fc1d34e5e69bc51fcfea29329c8fa80"), looks := true }, kinds := [], alts := [], laidByText := true, laidKinds := [.data, .data, .data, .data, .pinned], laidTests := true, laidLooks := .later }
def ShiftWheresUptoCardSaid : Prop := Claim7.holds Tryz.pinned (.plain (OpenSpec.upto shiftWheresSpec)) shiftWheresUptoCard

/-- THE SECOND FORM's CARD OF 'nacrelaw05.ShiftMades'. -/
def shiftMadesUptoCard : Claim7 := { stood := { row := shiftMadesUptoRow, standIns := [], harness := (true, "3790dbe7c969a99d29e58b9f33dbbd4b1fc1d34e5e69bc51fcfea29329c8fa80"), looks := true }, kinds := [], alts := [], laidByText := true, laidKinds := [.data, .data, .data, .data, .pinned], laidTests := true, laidLooks := .later }
def ShiftMadesUptoCardSaid : Prop := Claim7.holds Tryz.pinned (.plain (OpenSpec.upto shiftMadesSpec)) shiftMadesUptoCard

/-- THE SECOND FORM's CARD OF 'nacrelaw05.ShiftPrints'. -/
def shiftPrintsUptoCard : Claim7 := { stood := { row := shiftPrintsUptoRow, standIns := [], harness := (true, "3790dbe7c969a99d29e58b9f33dbbd4b1fc1d34e5e69bc51fcfea29329c8fa80"), looks := true }, kinds := [], alts := [], laidByText := true, laidKinds := [.data, .data, .data, .data, .pinned], laidTests := true, laidLooks := .later }
def ShiftPrintsUptoCardSaid : Prop := Claim7.holds Tryz.pinned (.plain (OpenSpec.upto shiftPrintsSpec)) shiftPrintsUptoCard

/-- THE SECOND FORM's CARD OF 'nacrelaw05.ShiftReads'. -/
def shiftReadsUptoCard : Claim7 := { stood := { row := shiftReadsUptoRow, standIns := [], harness := (true, "3790dbe7c969a99d29e58b9f33dbbd4b1fc1d34e5e69bc51fcfea29329c8fa80"), looks := true }, kinds := [], alts := [], laidByText := true, laidKinds := [.data, .data, .data, .data, .pinned], laidTests := true, laidLooks := .later }
def ShiftReadsUptoCardSaid : Prop := Claim7.holds Tryz.pinned (.plain (OpenSpec.upto shiftReadsSpec)) shiftReadsUptoCard

/-- THE SECOND FORM's CARD OF 'nacrelaw05.ShiftSpoilt'. -/
def shiftSpoiltUptoCard : Claim7 := { stood := { row := shiftSpoiltUptoRow, standIns := [], harness := (true, "3790dbe7c969a99d29e58b9f33dbbd4b1fc1d34e5e69bc51fcfea29329c8fa80"), looks := true }, kinds := [], alts := [], laidByText := true, laidKinds := [.data, .data, .data, .data, .pinned], laidTests := true, laidLooks := .later }
def ShiftSpoiltUptoCardSaid : Prop := Claim7.holds Tryz.pinned (.plain (OpenSpec.upto shiftSpoiltSpec)) shiftSpoiltUptoCard

/-- THE SECOND FORM's CARD OF 'nacrelaw05.ShiftOrders'. -/
def shiftOrdersUptoCard : Claim7 := { stood := { row := shiftOrdersUptoRow, standIns := [], harness := (true, "3790dbe7c969a99d29e58b9f33dbbd4b1fc1d34e5e69bc51fcfea29329c8fa80"), looks := true }, kinds := [], alts := [], laidByText := true, laidKinds := [.data, .data, .data, .data, .pinned], laidTests := true, laidLooks := .later }
def ShiftOrdersUptoCardSaid : Prop := Claim7.holds Tryz.pinned (.plain (OpenSpec.upto shiftOrdersSpec)) shiftOrdersUptoCard

/-- THE SECOND FORM's CARD OF 'nacrelaw05.ShiftStaffs'. -/
def shiftStaffsUptoCard : Claim7 := { stood := { row := shiftStaffsUptoRow, standIns := [], harness := (true, "3790dbe7c969a99d29e58b9f33dbbd4b1fc1d34e5e69bc51fcfea29329c8fa80"), looks := true }, kinds := [], alts := [], laidByText := true, laidKinds := [.data, .data, .data, .data, .pinned], laidTests := true, laidLooks := .later }
def ShiftStaffsUptoCardSaid : Prop := Claim7.holds Tryz.pinned (.plain (OpenSpec.upto shiftStaffsSpec)) shiftStaffsUptoCard

/-- THE SECOND FORM's CARD OF 'nacrelaw05.ShiftRivals'. -/
def shiftRivalsUptoCard : Claim7 := { stood := { row := shiftRivalsUptoRow, standIns := [], harness := (true, "3790dbe7c969a99d29e58b9f33dbbd4b1fc1d34e5e69bc51fcfea29329c8fa80"), looks := true }, kinds := [], alts := [], laidByText := true, laidKinds := [.data, .data, .data, .data, .pinned], laidTests := true, laidLooks := .later }
def ShiftRivalsUptoCardSaid : Prop := Claim7.holds Tryz.pinned (.plain (OpenSpec.upto shiftRivalsSpec)) shiftRivalsUptoCard

/-- THE SECOND FORM's CARD OF 'nacrelaw05.ShiftBreathes'. -/
def shiftBreathesUptoCard : Claim7 := { stood := { row := shiftBreathesUptoRow, standIns := [], harness := (true, "3790dbe7c969a99d29e58b9f33dbbd4b1fc1d34e5e69bc51fcfea29329c8fa80"), looks := true }, kinds := [], alts := [], laidByText := true, laidKinds := [.data, .data, .data, .data, .pinned], laidTests := true, laidLooks := .later }
def ShiftBreathesUptoCardSaid : Prop := Claim7.holds Tryz.pinned (.plain (OpenSpec.upto shiftBreathesSpec)) shiftBreathesUptoCard

/-- THE SECOND FORM's CARD OF 'nacrelaw05.ShiftAny'. -/
def shiftAnyUptoCard : Claim7 := { stood := { row := shiftAnyUptoRow, standIns := [], harness := (true, "3790dbe7c969a99d29e58b9f33dbbd4b1fc1d34e5e69bc51fcfea29329c8fa80"), looks := true }, kinds := [], alts := [], laidByText := true, laidKinds := [.data, .data, .data, .data, .pinned], laidTests := true, laidLooks := .later }
def ShiftAnyUptoCardSaid : Prop := Claim7.holds Tryz.pinned (.plain (OpenSpec.upto shiftAnySpec)) shiftAnyUptoCard

/-- THE SECOND FORM's CARD OF 'nacrelaw05.ShiftMore'. -/
def shiftMoreUptoCard : Claim7 := { stood := { row := shiftMoreUptoRow, standIns := [], harness := (true, "3790dbe7c969a99d29e58b9f33dbbd4b1fc1d34e5e69bc51fcfea29329c8fa80"), looks := true }, kinds := [], alts := [], laidByText := true, laidKinds := [.data, .data, .data, .data, .pinned], laidTests := true, laidLooks := .later }
def ShiftMoreUptoCardSaid : Prop := Claim7.holds Tryz.pinned (.plain (OpenSpec.upto shiftMoreSpec)) shiftMoreUptoCard

/-- THE SECOND FORM's CARD OF 'nacrelaw05.ShiftTrue'. -/
def shiftTrueUptoCard : Claim7 := { stood := { row := shiftTrueUptoRow, standIns := [], harness := (true, "3790dbe7c969a99d29e58b9f33dbbd4b1fc1d34e5e69bc51fcfea29329c8fa80"), looks := true }, kinds := [], alts := [], laidByText := true, laidKinds := [.data, .data, .data, .data, .pinned], laidTests := true, laidLooks := .later }
def ShiftTrueUptoCardSaid : Prop := Claim7.holds Tryz.pinned (.plain (OpenSpec.upto shiftTrueSpec)) shiftTrueUptoCard

/-- THE SECOND FORM's CARD OF 'nacrelaw05.ShiftAir'. -/
def shiftAirUptoCard : Claim7 := { stood := { row := shiftAirUptoRow, standIns := [], harness := (true, "3790dbe7c969a99d29e58b9f33dbbd4b1fc1d34e5e69bc51fcfea29329c8fa80"), looks := true }, kinds := [], alts := [], laidByText := true, laidKinds := [.data, .data, .data, .data, .pinned], laidTests := true, laidLooks := .later }
def ShiftAirUptoCardSaid : Prop := Claim7.holds Tryz.pinned (.plain (OpenSpec.upto shiftAirSpec)) shiftAirUptoCard

/-- THE SECOND FORM's CARD OF 'nacrelaw05.ShiftLost'. -/
def shiftLostUptoCard : Claim7 := { stood := { row := shiftLostUptoRow, standIns := [], harness := (true, "3790dbe7c969a99d29e58b9f33dbbd4b1fc1d34e5e69bc51fcfea29329c8fa80"), looks := true }, kinds := [], alts := [], laidByText := true, laidKinds := [.data, .data, .data, .data, .pinned], laidTests := true, laidLooks := .later }
def ShiftLostUptoCardSaid : Prop := Claim7.holds Tryz.pinned (.plain (OpenSpec.upto shiftLostSpec)) shiftLostUptoCard

/-- THE SECOND FORM's CARD OF 'nacrelaw05.ShiftWas'. -/
def shiftWasUptoCard : Claim7 := { stood := { row := shiftWasUptoRow, standIns := [], harness := (true, "3790dbe7c969a99d29e58b9f33dbbd4b1fc1d34e5e69bc51fcfea29329c8fa80"), looks := true }, kinds := [], alts := [], laidByText := true, laidKinds := [.data, .data, .data, .data, .pinned], laidTests := true, laidLooks := .later }
def ShiftWasUptoCardSaid : Prop := Claim7.holds Tryz.pinned (.plain (OpenSpec.upto shiftWasSpec)) shiftWasUptoCard

/-- THE SECOND FORM's CARD OF 'nacrelaw05.ShiftRuns'. -/
def shiftRunsUptoCard : Claim7 := { stood := { row := shiftRunsUptoRow, standIns := [], harness := (true, "3790dbe7c969a99d29e58b9f33dbbd4b1fc1d34e5e69bc51fcfea29329c8fa80"), looks := true }, kinds := [], alts := [], laidByText := true, laidKinds := [.data, .data, .data, .data, .pinned], laidTests := true, laidLooks := .later }
def ShiftRunsUptoCardSaid : Prop := Claim7.holds Tryz.pinned (.plain (OpenSpec.upto shiftRunsSpec)) shiftRunsUptoCard
end Rows
end Go.Proofs.YtkpbdjpekjdhcaaGreatDoor
