/-
  MouldKnowns returns true for every input, and leaves its input as it was. No condition but the row's own: the tables of Go's library that it lists hold what the program's text lays there.
-/
import Derived.Test.YtgihdicidaipmaaGreatDoorRAV
import Derived.Test.YtgihdicidaipmaaGreatDoorRXGVG
import Derived.Test.YtgihdicidaipmaaGreatDoorRBG
import Derived.Test.YtgihdicidaipmaaGreatDoorCards
set_option linter.unusedSimpArgs false
set_option linter.unusedVariables false
set_option linter.unusedSectionVars false
set_option maxRecDepth 100000
namespace Go.Proofs.YtgihdicidaipmaaGreatDoor
open Go Go.AM Go.ChangeShapes Go.WideShapes Go.ChangeAt Go.RowKit
theorem law3 [Keep] (hT : TabK Tryz.prog) (avs : List AV) (h : ArgsOk Tryz.prog Tryz.f3.params.toList avs) : ∃ X, X.P = Tryz.prog /\ Sound X /\ ∃ h', Cl X 3 avs emptyHp (.ret (.bool true) h' none) := by
 rw [Tryz.params3] at h
 rcases h with _ | ⟨k1, _ | ⟨k2, _ | ⟨k3, _ | _⟩⟩⟩
 obtain ⟨sa, b, rfl, v⟩ := Sh.book k1
 obtain ⟨m, rfl⟩ := Sh.i64 k2
 obtain ⟨s, rfl⟩ := Sh.i64 k3
 rw [ag24, ag3]
 exact ⟨dX c3, rfl, c3_sound, (T3 sa b m s v).gives⟩
theorem mouldKnowns_lifted (os : Os) (started : os.Started) (H : Type) (enc : TypeId × Value -> H) :
  ReturnsInHanded {} Tryz.checked os 3 .any (fun w args => (Rows.mouldKnownsSpec.pre enc Tryz.prog Tryz.f3 Rows.mouldKnownsRow.domain false w args /\ laidMetH Tryz.prog laidL5 w) /\ sizedMet enc Tryz.prog Tryz.f3 (OpenSpec.ofChange Rows.mouldKnownsSpec) false w args)
   (Rows.mouldKnownsSpec.post enc Tryz.prog Tryz.f3 false true false false) := by
 refine returnsInHanded_of_change_and (C := Tryz.checked) (X := fun w _ => laidMetH Tryz.prog laidL5 w) (fun _ _ _ hh h => h.of_heap hh) own started (by kernel_rfl) Tryz.func3
  (ChangeSpec.witness_shaped (enc := enc) (C := Tryz.checked) (os := os) (X := fun w _ => laidMetH Tryz.prog laidL5 w) false (World.laidAll Tryz.prog os laidL5) #[.agg #[.int .i64 0, .int .i64 0, .slice none 0 0], .int .i64 0, .int .i64 0] 8 (World.laidAll_os _ _ _)
   (World.shaped_of_ZipB (by kernel_rfl) (by kernel_rfl)) (by kernel_rfl) (by kernel_rfl) (by kernel_rfl)
   (by rw [MakeChecks.laidMetH_plain _ _ _ (by kernel_rfl)]; exact laidMet_laidAll _ (by kernel_rfl) (by kernel_rfl))) ?_
 intro W base args ds gs before hval hW _ _ hL _
 exact lawHolds Tryz.func3 (by kernel_rfl) rfl (fun ds hd => by
  match ds, hd with
  | [d1, d2, d3], _ => rfl) (by rw [Tryz.params3]; intro t ht; simp at ht; rcases ht with rfl | rfl | rfl <;> kernel_rfl) (by rw [Tryz.params3]; intro t ht; simp at ht; rcases ht with rfl | rfl | rfl <;> exact ⟨by kernel_rfl, of_decide_eq_true (by kernel_rfl)⟩)
  (fun hT avs h => law3 hT avs h) W base args ds gs before hval hW (laidSub hL)
theorem in3 : (Rows.mouldKnownsRow.inPlace == Tryz.prog.inPlace 3) = true := by kernel_rfl
theorem unf3 : (Rows.mouldKnownsRow.unfollowed == Tryz.prog.unfollowed 3) = true := by kernel_rfl
theorem rec3 : (Rows.mouldKnownsRow.recurses == Tryz.prog.recurses 3) = true := by kernel_rfl
theorem nam3 : (Rows.mouldKnownsRow.named == Tryz.prog.varsNamed 3) = true := by kernel_rfl
theorem closed3 : joinedFacts Tryz.prog 3 Tryz.f3 Rows.mouldKnownsSpec Rows.mouldKnownsRow = true := by
 unfold joinedFacts
 rw [enter_ok, lifts_ok, make_ok]
 repeat' (with_reducible apply and_mk)
 all_goals (first | with_reducible exact laidOut | with_reducible exact rowed | with_reducible exact in3 | with_reducible exact unf3 | with_reducible exact rec3 | with_reducible exact nam3 | kernel_rfl)
theorem mouldKnowns_holds : Rows.MouldKnownsSaid :=
 OpenClaim.holds_of_wide 3 Tryz.f3 rfl rfl rfl rfl rfl rfl rfl ⟨rfl, rfl, rfl, rfl, rfl⟩ rfl rfl rfl rfl rfl (by kernel_rfl) Tryz.func3 closed3
  (of_decide_eq_true (by kernel_rfl)) (by unfold Func.isWrapper; rw [if_neg (of_decide_eq_false (by kernel_rfl))]; exact ⟨rfl, rfl⟩)
  (fun os started H enc _ => mouldKnowns_lifted os started H enc)
theorem goes3 : false = Rows.mouldKnownsRow.goesBy Tryz.prog := by kernel_rfl
theorem mouldKnowns_card : Rows.MouldKnownsCardSaid :=
 Claim7.holds_tied_plain_at .later [] [.data, .data, .data, .data, .pinned] true (true, "9f6af659d51eecd5ef0b7864e638dd6f75901458c8e0d6a7a601de42b21bca61") true mouldKnowns_holds (fun _ h => by cases h) (by kernel_rfl) (fun _ h => by cases h) mouldKnowns_row_tie rfl ⟨rfl, rfl⟩ main_ok rfl
  (fun f fn hf hfn => by
   obtain rfl : f = 3 := Option.some.inj ((show Tryz.prog.funcNamed "nacre/nacrelaw07.MouldKnowns" = some 3 by kernel_rfl).symm.trans hf) |>.symm
   obtain rfl : fn = Tryz.f3 := (Option.some.inj (Tryz.func3.symm.trans hfn)).symm
   exact ⟨looks_ok, fun j t ht => by
    rw [Tryz.params3] at ht
    have hm : t ∈ [24, 3, 3] := by simpa using Array.mem_of_getElem? ht
    have hall : ([24, 3, 3].all fun u => !Tryz.prog.wantsStandIn u) = true := by kernel_rfl
    exact (show Tryz.prog.wantsStandIn t = false by simpa using List.all_eq_true.1 hall t hm)⟩)
  goes3
end Go.Proofs.YtgihdicidaipmaaGreatDoor
