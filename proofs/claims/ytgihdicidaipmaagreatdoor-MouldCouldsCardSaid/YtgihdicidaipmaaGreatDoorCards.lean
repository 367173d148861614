/-
  DERIVED. GIVEN WITH THE SEED: THE CARDS: each row of YtgihdicidaipmaaGreatDoorRows.lean that lists a variable, with what it lists TIED to the program's text (the seventh form; the later family's looks); each row that meets fmt, with fmt's text TOLD by the authors' own Lean function (tested against real Go, not proved from fmt's source: count such statements apart). THE CARD IS WHAT COUNTS. Prove the row's statement (the work); the ties are given (YtgihdicidaipmaaGreatDoorTie.lean); close each card by the builder's one call (the guide's Derived/Test/ToyasCard.lean, 'card_holds'). Laid BY PROGRAM, IN A SANDBOX (cutbox-door.mjs). By AI agents, Wed Nov 11 2026. No macro, syntax, notation, axiom, sorry.
-/
import Derived.Test.YtgihdicidaipmaaGreatDoorRows
import GoSem.ClaimSeven
namespace Go.Proofs.YtgihdicidaipmaaGreatDoor
namespace Rows

/-- THE TIED CARD OF 'nacrelaw07.MouldKnowns'. -/
def mouldKnownsCard : Claim7 := { stood := { row := mouldKnownsRow, standIns := [], harness := (true, "9f6af659d51eecd5ef0b7864e638dd6f75901458c8e0d6a7a601de42b21bca61"), looks := true }, kinds := [], alts := [], laidByText := true, laidKinds := [.data, .data, .data, .data, .pinned], laidTests := true, laidLooks := .later }
def MouldKnownsCardSaid : Prop := Claim7.holds Tryz.pinned (.plain (OpenSpec.ofChange mouldKnownsSpec)) mouldKnownsCard

/-- THE TIED CARD OF 'nacrelaw07.MouldHads'. -/
def mouldHadsCard : Claim7 := { stood := { row := mouldHadsRow, standIns := [], harness := (true, "9f6af659d51eecd5ef0b7864e638dd6f75901458c8e0d6a7a601de42b21bca61"), looks := true }, kinds := [], alts := [], laidByText := true, laidKinds := [.data, .data, .data, .data, .pinned], laidTests := true, laidLooks := .later }
def MouldHadsCardSaid : Prop := Claim7.holds Tryz.pinned (.plain (OpenSpec.ofChange mouldHadsSpec)) mouldHadsCard

/-- THE TIED CARD OF 'nacrelaw07.MouldCoulds'. -/
def mouldCouldsCard : Claim7 := { stood := { row := mouldCouldsRow, standIns := [], harness := (true, "9f6af659d51eecd5ef0b7864e638dd6f75901458c8e0d6a7a601de42b21bca61"), looks := true }, kinds := [], alts := [], laidByText := true, laidKinds := [.data, .data, .data, .data, .pinned], laidTests := true, laidLooks := .later }
def MouldCouldsCardSaid : Prop := Claim7.holds Tryz.pinned (.plain (OpenSpec.ofChange mouldCouldsSpec)) mouldCouldsCard

/-- THE TIED CARD OF 'nacrelaw07.MouldTwices'. -/
def mouldTwicesCard : Claim7 := { stood := { row := mouldTwicesRow, standIns := [], harness := (true, "9f6af659d51eecd5ef0b7864e638dd6f75901458c8e0d6a7a601de42b21bca61"), looks := true }, kinds := [], alts := [], laidByText := true, laidKinds := [.data, .data, .data, .data, .pinned], laidTests := true, laidLooks := .later }
def MouldTwicesCardSaid : Prop := Claim7.holds Tryz.pinned (.plain (OpenSpec.ofChange mouldTwicesSpec)) mouldTwicesCard

/-- THE TIED CARD OF 'nacrelaw07.MouldProves'. -/
def mouldProvesCard : Claim7 := { stood := { row := mouldProvesRow, standIns := [], harness := (true, "9f6af659d51eecd5ef0b7864e638dd6f75901458c8e0d6a7a601de42b21bca61"), looks := true }, kinds := [], alts := [], laidByText := true, laidKinds := [.data, .data, .data, .data, .pinned], laidTests := true, laidLooks := .later }
def MouldProvesCardSaid : Prop := Claim7.holds Tryz.pinned (.plain (OpenSpec.ofChange mouldProvesSpec)) mouldProvesCard

/-- THE TIED CARD OF 'nacrelaw07.MouldConfuseds'. -/
def mouldConfusedsCard : Claim7 := { stood := { row := mouldConfusedsRow, standIns := [], harness := (true, "9f6af659d51eecd5ef0b7864e638dd6f75901458c8e0d6a7a601de42b21bca61"), looks := true }, kinds := [], alts := [], laidByText := true, laidKinds := [.data, .data, .data, .data, .pinned], laidTests := true, laidLooks := .later }
def MouldConfusedsCardSaid : Prop := Claim7.holds Tryz.pinned (.plain (OpenSpec.ofChange mouldConfusedsSpec)) mouldConfusedsCard

/-- THE TIED CARD OF 'nacrelaw07.MouldRivals'. -/
def mouldRivalsCard : Claim7 := { stood := { row := mouldRivalsRow, standIns := [], harness := (true, "9f6af659d51eecd5ef0b7864e638dd6f75901458c8e0d6a7a601de42b21bca61"), looks := true }, kinds := [], alts := [], laidByText := true, laidKinds := [.data, .data, .data, .data, .pinned], laidTests := true, laidLooks := .later }
def MouldRivalsCardSaid : Prop := Claim7.holds Tryz.pinned (.plain (OpenSpec.ofChange mouldRivalsSpec)) mouldRivalsCard

/-- THE TIED CARD OF 'nacrelaw07.MouldMore'. -/
def mouldMoreCard : Claim7 := { stood := { row := mouldMoreRow, standIns := [], harness := (true, "9f6af659d51eecd5ef0b7864e638dd6f75901458c8e0d6a7a601de42b21bca61"), looks := true }, kinds := [], alts := [], laidByText := true, laidKinds := [.data, .data, .data, .data, .pinned], laidTests := true, laidLooks := .later }
def MouldMoreCardSaid : Prop := Claim7.holds Tryz.pinned (.plain (OpenSpec.ofChange mouldMoreSpec)) mouldMoreCard

/-- THE TIED CARD OF 'nacrelaw07.MouldPrints'. -/
def mouldPrintsCard : Claim7 := { stood := { row := mouldPrintsRow, standIns := [], harness := (true, "9f6af659d51eecd5ef0b7864e638dd6f75901458c8e0d6a7a601de42b21bca61"), looks := true }, kinds := [], alts := [], laidByText := true, laidKinds := [.data, .data, .data, .data, .pinned], laidTests := true, laidLooks := .later }
def MouldPrintsCardSaid : Prop := Claim7.holds Tryz.pinned (.plain (OpenSpec.ofChange mouldPrintsSpec)) mouldPrintsCard

/-- THE TIED CARD OF 'nacrelaw07.MouldReads'. -/
def mouldReadsCard : Claim7 := { stood := { row := mouldReadsRow, standIns := [], harness := (true, "9f6af659d51eecd5ef0b7864e638dd6f75901458c8e0d6a7a601de42b21bca61"), looks := true }, kinds := [], alts := [], laidByText := true, laidKinds := [.data, .data, .data, .data, .pinned], laidTests := true, laidLooks := .later }
def MouldReadsCardSaid : Prop := Claim7.holds Tryz.pinned (.plain (OpenSpec.ofChange mouldReadsSpec)) mouldReadsCard

/-- THE TIED CARD OF 'nacrelaw07.MouldSpoilt'. -/
def mouldSpoiltCard : Claim7 := { stood := { row := mouldSpoiltRow, standIns := [], harness := (true, "9f6af659d51eecd5ef0b7864e638dd6f75901458c8e0d6a7a601de42b21bca61"), looks := true }, kinds := [], alts := [], laidByText := true, laidKinds := [.data, .data, .data, .data, .pinned], laidTests := true, laidLooks := .later }
def MouldSpoiltCardSaid : Prop := Claim7.holds Tryz.pinned (.plain (OpenSpec.ofChange mouldSpoiltSpec)) mouldSpoiltCard

/-- THE TIED CARD OF 'nacrelaw07.MouldTrue'. -/
def mouldTrueCard : Claim7 := { stood := { row := mouldTrueRow, standIns := [], harness := (true, "9f6af659d51eecd5ef0b7864e638dd6f75901458c8e0d6a7a601de42b21bca61"), looks := true }, kinds := [], alts := [], laidByText := true, laidKinds := [.data, .data, .data, .data, .pinned], laidTests := true, laidLooks := .later }
def MouldTrueCardSaid : Prop := Claim7.holds Tryz.pinned (.plain (OpenSpec.ofChange mouldTrueSpec)) mouldTrueCard

/-- THE TIED CARD OF 'nacrelaw07.MouldStamped'. -/
def mouldStampedCard : Claim7 := { stood := { row := mouldStampedRow, standIns := [], harness := (true, "9f6af659d51eecd5ef0b7864e638dd6f75901458c8e0d6a7a601de42b21bca61"), looks := true }, kinds := [], alts := [], laidByText := true, laidKinds := [.data, .data, .data, .data, .pinned], laidTests := true, laidLooks := .later }
def MouldStampedCardSaid : Prop := Claim7.holds Tryz.pinned (.plain (OpenSpec.ofChange mouldStampedSpec)) mouldStampedCard

/-- THE TIED CARD OF 'nacrelaw07.MouldAgain'. -/
def mouldAgainCard : Claim7 := { stood := { row := mouldAgainRow, standIns := [], harness := (true, "9f6af659d51eecd5ef0b7864e638dd6f75901458c8e0d6a7a601de42b21bca61"), looks := true }, kinds := [], alts := [], laidByText := true, laidKinds := [.data, .data, .data, .data, .pinned], laidTests := true, laidLooks := .later }
def MouldAgainCardSaid : Prop := Claim7.holds Tryz.pinned (.plain (OpenSpec.ofChange mouldAgainSpec)) mouldAgainCard

/-- THE TIED CARD OF 'nacrelaw07.MouldProof'. -/
def mouldProofCard : Claim7 := { stood := { row := mouldProofRow, standIns := [], harness := (true, "9f6af659d51eecd5ef0b7864e638dd6f75901458c8e0d6a7a601de42b21bca61"), looks := true }, kinds := [], alts := [], laidByText := true, laidKinds := [.data, .data, .data, .data, .pinned], laidTests := true, laidLooks := .later }
def MouldProofCardSaid : Prop := Claim7.holds Tryz.pinned (.plain (OpenSpec.ofChange mouldProofSpec)) mouldProofCard

/-- THE TIED CARD OF 'nacrelaw07.MouldTold'. -/
def mouldToldCard : Claim7 := { stood := { row := mouldToldRow, standIns := [], harness := (true, "9f6af659d51eecd5ef0b7864e638dd6f75901458c8e0d6a7a601de42b21bca61"), looks := true }, kinds := [], alts := [], laidByText := true, laidKinds := [.data, .data, .data, .data, .pinned], laidTests := true, laidLooks := .later }
def MouldToldCardSaid : Prop := Claim7.holds Tryz.pinned (.plain (OpenSpec.ofChange mouldToldSpec)) mouldToldCard

/-- THE TIED CARD OF 'nacrelaw07.MouldMarks'. -/
def mouldMarksCard : Claim7 := { stood := { row := mouldMarksRow, standIns := [], harness := (true, "9f6af659d51eecd5ef0b7864e638dd6f75901458c8e0d6a7a601de42b21bca61"), looks := true }, kinds := [], alts := [], laidByText := true, laidKinds := [.data, .data, .data, .data, .pinned], laidTests := true, laidLooks := .later }
def MouldMarksCardSaid : Prop := Claim7.holds Tryz.pinned (.plain (OpenSpec.ofChange mouldMarksSpec)) mouldMarksCard

/-- THE SECOND FORM's CARD OF 'nacrelaw07.MouldKnowns'. -/
def mouldKnownsUptoCard : Claim7 := { stood := { row := mouldKnownsUptoRow, standIns := [], harness := (true, "9f6af659d51eecd5ef0b7864e638dd6f75901458c8e0d6a7a601de42b21bca61"), looks := true }, kinds := [], alts := [], laidByText := true, laidKinds := [.data, .data, .data, .data, .pinned], laidTests := true, laidLooks := .later }
def MouldKnownsUptoCardSaid : Prop := Claim7.holds Tryz.pinned (.plain (OpenSpec.upto mouldKnownsSpec)) mouldKnownsUptoCard

/-- THE SECOND FORM's CARD OF 'nacrelaw07.MouldHads'. -/
def mouldHadsUptoCard : Claim7 := { stood := { row := mouldHadsUptoRow, standIns := [], harness := (true, "9f6af659d51eecd5ef0b7864e638dd6f75901458c8e0d6a7a601de42b21bca61"), looks := true }, kinds := [], alts := [], laidByText := true, laidKinds := [.data, .data, .data, .data, .pinned], laidTests := true, laidLooks := .later }
def MouldHadsUptoCardSaid : Prop := Claim7.holds Tryz.pinned (.plain (OpenSpec.upto mouldHadsSpec)) mouldHadsUptoCard

/-- THE SECOND FORM's CARD OF 'nacrelaw07.MouldCoulds'. -/
def mouldCouldsUptoCard : Claim7 := { stood := { row := mouldCouldsUptoRow, standIns := [], harness := (true, "9f6af659d51eecd5ef0b7864e638dd6f75901458c8e0d6a7a601de42b21bca61"), looks := true }, kinds := [], alts := [], laidByText := true, laidKinds := [.data, .data, .data, .data, .pinned], laidTests := true, laidLooks := .later }
def MouldCouldsUptoCardSaid : Prop := Claim7.holds Tryz.pinned (.plain (OpenSpec.upto mouldCouldsSpec)) mouldCouldsUptoCard

/-- THE SECOND FORM's CARD OF 'nacrelaw07.MouldTwices'. -/
def mouldTwicesUptoCard : Claim7 := { stood := { row := mouldTwicesUptoRow, standIns := [], harness := (true, "9f6af659d51eecd5ef0b7864e638dd6f75901458c8e0d6a7a601de42b21bca61"), looks := true }, kinds := [], alts := [], laidByText := true, laidKinds := [.data, .data, .data, .data, .pinned], laidTests := true, laidLooks := .later }
def MouldTwicesUptoCardSaid : Prop := Claim7.holds Tryz.pinned (.plain (OpenSpec.upto mouldTwicesSpec)) mouldTwicesUptoCard

/-- THE SECOND FORM's CARD OF 'nacrelaw07.MouldProves'. -/
def mouldProvesUptoCard : Claim7 := { stood := { row := mouldProvesUptoRow, standIns := [], harness := (true, "9f6af659d51eecd5ef0b7864e638dd6f75901458c8e0d6a7a601de42b21bca61"), looks := true }, kinds := [], alts := [], laidByText := true, laidKinds := [.data, .data, .data, .data, .pinned], laidTests := true, laidLooks := .later }
def MouldProvesUptoCardSaid : Prop := Claim7.holds Tryz.pinned (.plain (OpenSpec.upto mouldProvesSpec)) mouldProvesUptoCard

/-- THE SECOND FORM's CARD OF 'nacrelaw07.MouldConfuseds'. -/
def mouldConfusedsUptoCard : Claim7 := { stood := { row := mouldConfusedsUptoRow, standIns := [], harness := (true, "9f6af659d51eecd5ef0b7864e638dd6f75901458c8e0d6a7a601de42b21bca61"), looks := true }, kinds := [], alts := [], laidByText := true, laidKinds := [.data, .data, .data, .data, .pinned], laidTests := true, laidLooks := .later }
def MouldConfusedsUptoCardSaid : Prop := Claim7.holds Tryz.pinned (.plain (OpenSpec.upto mouldConfusedsSpec)) mouldConfusedsUptoCard

/-- THE SECOND FORM's CARD OF 'nacrelaw07.MouldRivals'. -/
def mouldRivalsUptoCard : Claim7 := { stood := { row := mouldRivalsUptoRow, standIns := [], harness := (true, "9f6af659d51eecd5ef0b7864e638dd6f75901458c8e0d6a7a601de42b21bca61"), looks := true }, kinds := [], alts := [], laidByText := true, laidKinds := [.data, .data, .data, .data, .pinned], laidTests := true, laidLooks := .later }
def MouldRivalsUptoCardSaid : Prop := Claim7.holds Tryz.pinned (.plain (OpenSpec.upto mouldRivalsSpec)) mouldRivalsUptoCard

/-- THE SECOND FORM's CARD OF 'nacrelaw07.MouldMore'. -/
def mouldMoreUptoCard : Claim7 := { stood := { row := mouldMoreUptoRow, standIns := [], harness := (true, "9f6af659d51eecd5ef0b7864e638dd6f75901458c8e0d6a7a601de42b21bca61"), looks := true }, kinds := [], alts := [], laidByText := true, laidKinds := [.data, .data, .data, .data, .pinned], laidTests := true, laidLooks := .later }
def MouldMoreUptoCardSaid : Prop := Claim7.holds Tryz.pinned (.plain (OpenSpec.upto mouldMoreSpec)) mouldMoreUptoCard

/-- THE SECOND FORM's CARD OF 'nacrelaw07.MouldPrints'. -/
def mouldPrintsUptoCard : Claim7 := { stood := { row := mouldPrintsUptoRow, standIns := [], harness := (true, "9f6af659d51eecd5ef0b7864e638dd6f75901458c8e0d6a7a601de42b21bca61"), looks := true }, kinds := [], alts := [], laidByText := true, laidKinds := [.data, .data, .data, .data, .pinned], laidTests := true, laidLooks := .later }
def MouldPrintsUptoCardSaid : Prop := Claim7.holds Tryz.pinned (.plain (OpenSpec.upto mouldPrintsSpec)) mouldPrintsUptoCard

/-- THE SECOND FORM's CARD OF 'nacrelaw07.MouldReads'. -/
def mouldReadsUptoCard : Claim7 := { stood := { row := mouldReadsUptoRow, standIns := [], harness := (true, "9f6af659d51eecd5ef0b7864e638dd6f75901458c8e0d6a7a601de42b21bca61"), looks := true }, kinds := [], alts := [], laidByText := true, laidKinds := [.data, .data, .data, .data, .pinned], laidTests := true, laidLooks := .later }
def MouldReadsUptoCardSaid : Prop := Claim7.holds Tryz.pinned (.plain (OpenSpec.upto mouldReadsSpec)) mouldReadsUptoCard

/-- THE SECOND FORM's CARD OF 'nacrelaw07.MouldSpoilt'. -/
def mouldSpoiltUptoCard : Claim7 := { stood := { row := mouldSpoiltUptoRow, standIns := [], harness := (true, "9f6af659d51eecd5ef0b7864e638dd6f75901458c8e0d6a7a601de42b21bca61"), looks := true }, kinds := [], alts := [], laidByText := true, laidKinds := [.data, .data, .data, .data, .pinned], laidTests := true, laidLooks := .later }
def MouldSpoiltUptoCardSaid : Prop := Claim7.holds Tryz.pinned (.plain (OpenSpec.upto mouldSpoiltSpec)) mouldSpoiltUptoCard

/-- THE SECOND FORM's CARD OF 'nacrelaw07.MouldTrue'. -/
def mouldTrueUptoCard : Claim7 := { stood := { row := mouldTrueUptoRow, standIns := [], harness := (true, "9f6af659d51eecd5ef0b7864e638dd6f75901458c8e0d6a7a601de42b21bca61"), looks := true }, kinds := [], alts := [], laidByText := true, laidKinds := [.data, .data, .data, .data, .pinned], laidTests := true, laidLooks := .later }
def MouldTrueUptoCardSaid : Prop := Claim7.holds Tryz.pinned (.plain (OpenSpec.upto mouldTrueSpec)) mouldTrueUptoCard

/-- THE SECOND FORM's CARD OF 'nacrelaw07.MouldStamped'. -/
def mouldStampedUptoCard : Claim7 := { stood := { row := mouldStampedUptoRow, standIns := [], harness := (true, "9f6af659d51eecd5ef0b7864e638dd6f75901458c8e0d6a7a601de42b21bca61"), looks := true }, kinds := [], alts := [], laidByText := true, laidKinds := [.data, .data, .data, .data, .pinned], laidTests := true, laidLooks := .later }
def MouldStampedUptoCardSaid : Prop := Claim7.holds Tryz.pinned (.plain (OpenSpec.upto mouldStampedSpec)) mouldStampedUptoCard

/-- THE SECOND FORM's CARD OF 'nacrelaw07.MouldAgain'. -/
def mouldAgainUptoCard : Claim7 := { stood := { row := mouldAgainUptoRow, standIns := [], harness := (true, "9f6af659d51eecd5ef0b7864e638dd6f75901458c8e0d6a7a601de42b21bca61"), looks := true }, kinds := [], alts := [], laidByText := true, laidKinds := [.data, .data, .data, .data, .pinned], laidTests := true, laidLooks := .later }
def MouldAgainUptoCardSaid : Prop := Claim7.holds Tryz.pinned (.plain (OpenSpec.upto mouldAgainSpec)) mouldAgainUptoCard

/-- THE SECOND FORM's CARD OF 'nacrelaw07.MouldProof'. -/
def mouldProofUptoCard : Claim7 := { stood := { row := mouldProofUptoRow, standIns := [], harness := (true, "9f6af659d51eecd5ef0b7864e638dd6f75901458c8e0d6a7a601de42b21bca61"), looks := true }, kinds := [], alts := [], laidByText := true, laidKinds := [.data, .data, .data, .data, .pinned], laidTests := true, laidLooks := .later }
def MouldProofUptoCardSaid : Prop := Claim7.holds Tryz.pinned (.plain (OpenSpec.upto mouldProofSpec)) mouldProofUptoCard

/-- THE SECOND FORM's CARD OF 'nacrelaw07.MouldTold'. -/
def mouldToldUptoCard : Claim7 := { stood := { row := mouldToldUptoRow, standIns := [], harness := (true, "9f6af659d51eecd5ef0b7864e638dd6f75901458c8e0d6a7a601de42b21bca61"), looks := true }, kinds := [], alts := [], laidByText := true, laidKinds := [.data, .data, .data, .data, .pinned], laidTests := true, laidLooks := .later }
def MouldToldUptoCardSaid : Prop := Claim7.holds Tryz.pinned (.plain (OpenSpec.upto mouldToldSpec)) mouldToldUptoCard

/-- THE SECOND FORM's CARD OF 'nacrelaw07.MouldMarks'. -/
def mouldMarksUptoCard : Claim7 := { stood := { row := mouldMarksUptoRow, standIns := [], harness := (true, "9f6af659d51eecd5ef0b7864e638dd6f75901458c8e0d6a7a601de42b21bca61"), looks := true }, kinds := [], alts := [], laidByText := true, laidKinds := [.data, .data, .data, .data, .pinned], laidTests := true, laidLooks := .later }
def MouldMarksUptoCardSaid : Prop := Claim7.holds Tryz.pinned (.plain (OpenSpec.upto mouldMarksSpec)) mouldMarksUptoCard
end Rows
end Go.Proofs.YtgihdicidaipmaaGreatDoor
