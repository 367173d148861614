/-
  A part of the proof: contracts of functions.
-/
import Derived.Test.YtkpbdjpekjdhcaaGreatDoorSAS
import Derived.Test.YtkpbdjpekjdhcaaGreatDoorSXVG
import Derived.Test.YtkpbdjpekjdhcaaGreatDoorSAT
import Derived.Test.YtkpbdjpekjdhcaaGreatDoorCards
set_option linter.unusedSimpArgs false
set_option linter.unusedVariables false
set_option linter.unusedSectionVars false
set_option maxRecDepth 100000
namespace Go.Proofs.YtkpbdjpekjdhcaaGreatDoor
open Go Go.AM Go.ChangeShapes Go.WideShapes Go.ChangeAt Go.RowKit
theorem law7 [Keep] (hT : TabK Tryz.prog) (avs : List AV) (h : ArgsOk Tryz.prog Tryz.f7.params.toList avs) : ∃ X, X.P = Tryz.prog ∧ Sound X ∧ ∃ h', Cl X 7 avs emptyHp (.ret (.bool true) h' none) := by
  rw [Tryz.params7] at h
  rcases h with _ | ⟨k1, _ | _⟩
  obtain ⟨ra, fa, oa, ha, m, rfl, v1, v2, v3, v4⟩ := Sh.house k1
  rw [ag27]
  exact ⟨dX c7, rfl, c7_sound hT, (T7 ra fa oa ha m v1 v2 v3 v4).gives⟩
theorem shiftPrints_lifted (os : Os) (started : os.Started) (H : Type) (enc : TypeId × Value → H) :
    ReturnsInHanded {} Tryz.checked os 7 .any (fun w args => (Rows.shiftPrintsSpec.pre enc Tryz.prog Tryz.f7 Rows.shiftPrintsRow.domain false w args ∧ laidMetH Tryz.prog laidL5 w) ∧ sizedMet enc Tryz.prog Tryz.f7 (OpenSpec.ofChange Rows.shiftPrintsSpec) false w args)
      (Rows.shiftPrintsSpec.post enc Tryz.prog Tryz.f7 false true false false) := by
  refine returnsInHanded_of_change_and (C := Tryz.checked) (X := fun w _ => laidMetH Tryz.prog laidL5 w) (fun _ _ _ hh h => h.of_heap hh) own started (by kernel_rfl) Tryz.func7
    (ChangeSpec.witness_shaped (enc := enc) (C := Tryz.checked) (os := os) (X := fun w _ => laidMetH Tryz.prog laidL5 w) false (World.laidAll Tryz.prog os laidL5) #[.agg #[.int .i64 0, .slice none 0 0, .slice none 0 0, .slice none 0 0, .slice none 0 0]] 8 (World.laidAll_os _ _ _)
      (World.shaped_of_ZipB (by kernel_rfl) (by kernel_rfl)) (by kernel_rfl) (by kernel_rfl) (by kernel_rfl)
      (by rw [MakeChecks.laidMetH_plain _ _ _ (by kernel_rfl)]; exact laidMet_laidAll _ (by kernel_rfl) (by kernel_rfl))) ?_
  intro W base args ds gs before hval hW _ _ hL _
  exact lawHolds Tryz.func7 (by kernel_rfl) rfl (fun ds hd => by
    match ds, hd with
    | [d1], _ => rfl) (by rw [Tryz.params7]; intro t ht; simp at ht; rcases ht with rfl <;> kernel_rfl) (by rw [Tryz.params7]; intro t ht; simp at ht; rcases ht with rfl <;> exact ⟨by kernel_rfl, of_decide_eq_true (by kernel_rfl)⟩)
    (fun hT avs h => law7 hT avs h) W base args ds gs before hval hW (laidSub hL)
theorem in7 : (Rows.shiftPrintsRow.inPlace == Tryz.prog.inPlace 7) = true := by kernel_rfl
theorem unf7 : (Rows.shiftPrintsRow.unfollowed == Tryz.prog.unfollowed 7) = true := by kernel_rfl
theorem rec7 : (Rows.shiftPrintsRow.recurses == Tryz.prog.recurses 7) = true := by kernel_rfl
theorem nam7 : (Rows.shiftPrintsRow.named == Tryz.prog.varsNamed 7) = true := by kernel_rfl
theorem closed7 : joinedFacts Tryz.prog 7 Tryz.f7 Rows.shiftPrintsSpec Rows.shiftPrintsRow = true := by
  unfold joinedFacts
  rw [enter_ok, lifts_ok, make_ok]
  repeat' (with_reducible apply and_mk)
  all_goals (first | with_reducible exact laidOut | with_reducible exact rowed | with_reducible exact in7 | with_reducible exact unf7 | with_reducible exact rec7 | with_reducible exact nam7 | kernel_rfl)
theorem shiftPrints_holds : Rows.ShiftPrintsSaid :=
  OpenClaim.holds_of_wide 7 Tryz.f7 rfl rfl rfl rfl rfl rfl rfl ⟨rfl, rfl, rfl, rfl, rfl⟩ rfl rfl rfl rfl rfl (by kernel_rfl) Tryz.func7 closed7
    (of_decide_eq_true (by kernel_rfl)) (by unfold Func.isWrapper; rw [if_neg (of_decide_eq_false (by kernel_rfl))]; exact ⟨rfl, rfl⟩)
    (fun os started H enc _ => shiftPrints_lifted os started H enc)
theorem goes7 : false = Rows.shiftPrintsRow.goesBy Tryz.prog := by kernel_rfl
theorem shiftPrints_card : Rows.ShiftPrintsCardSaid :=
  Claim7.holds_tied_plain_at .later [] [.data, .data, .data, .data, .pinned] true (true, "3790dbe7c969a99d29e58b9f33dbbd4b1fc1d34e5e69bc51fcfea29329c8fa80") true shiftPrints_holds (fun _ h => by cases h) (by kernel_rfl) (fun _ h => by cases h) shiftPrints_row_tie rfl ⟨rfl, rfl⟩ main_ok rfl
    (fun f fn hf hfn => by
      obtain rfl : f = 7 := Option.some.inj ((show Tryz.prog.funcNamed "nacre/nacrelaw05.ShiftPrints" = some 7 by kernel_rfl).symm.trans hf) |>.symm
      obtain rfl : fn = Tryz.f7 := (Option.some.inj (Tryz.func7.symm.trans hfn)).symm
      exact ⟨looks_ok, fun j t ht => by
        rw [Tryz.params7] at ht
        have hm : t ∈ [27] := by simpa using Array.mem_of_getElem? ht
        have hall : ([27].all fun u => !Tryz.prog.wantsStandIn u) = true := by kernel_rfl
        exact (show Tryz.prog.wantsStandIn t = false by simpa using List.all_eq_true.1 hall t hm)⟩)
    goes7
end Go.Proofs.YtkpbdjpekjdhcaaGreatDoor
