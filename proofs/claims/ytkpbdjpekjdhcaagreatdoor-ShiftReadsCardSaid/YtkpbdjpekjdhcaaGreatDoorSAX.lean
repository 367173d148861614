/-
  A part of the proof: contracts of functions.
-/
import Derived.Test.YtkpbdjpekjdhcaaGreatDoorSAS
import Derived.Test.YtkpbdjpekjdhcaaGreatDoorSXVG
import Derived.Test.YtkpbdjpekjdhcaaGreatDoorSAU
import Derived.Test.YtkpbdjpekjdhcaaGreatDoorCards
set_option linter.unusedSimpArgs false
set_option linter.unusedVariables false
set_option linter.unusedSectionVars false
set_option maxRecDepth 100000
namespace Go.Proofs.YtkpbdjpekjdhcaaGreatDoor
open Go Go.AM Go.ChangeShapes Go.WideShapes Go.ChangeAt Go.RowKit
theorem law8 [Keep] (hT : TabK Tryz.prog) (avs : List AV) (h : ArgsOk Tryz.prog Tryz.f8.params.toList avs) : ∃ X, X.P = Tryz.prog ∧ Sound X ∧ ∃ h', Cl X 8 avs emptyHp (.ret (.bool true) h' none) := by
  rw [Tryz.params8] at h
  rcases h with _ | ⟨k1, _ | _⟩
  obtain ⟨s, rfl⟩ := Sh.txt k1
  rw [ag9]
  exact ⟨dX c8, rfl, c8_sound hT, (T8 s).gives⟩
theorem shiftReads_lifted (os : Os) (started : os.Started) (H : Type) (enc : TypeId × Value → H) :
    ReturnsInHanded {} Tryz.checked os 8 .any (fun w args => (Rows.shiftReadsSpec.pre enc Tryz.prog Tryz.f8 Rows.shiftReadsRow.domain false w args ∧ laidMetH Tryz.prog laidL5 w) ∧ sizedMet enc Tryz.prog Tryz.f8 (OpenSpec.ofChange Rows.shiftReadsSpec) false w args)
      (Rows.shiftReadsSpec.post enc Tryz.prog Tryz.f8 false true false false) := by
  refine returnsInHanded_of_change_and (C := Tryz.checked) (X := fun w _ => laidMetH Tryz.prog laidL5 w) (fun _ _ _ hh h => h.of_heap hh) own started (by kernel_rfl) Tryz.func8
    (ChangeSpec.witness_shaped (enc := enc) (C := Tryz.checked) (os := os) (X := fun w _ => laidMetH Tryz.prog laidL5 w) false (World.laidAll Tryz.prog os laidL5) #[.string ⟨#[]⟩] 8 (World.laidAll_os _ _ _)
      (World.shaped_of_ZipB (by kernel_rfl) (by kernel_rfl)) (by kernel_rfl) (by kernel_rfl) (by kernel_rfl)
      (by rw [MakeChecks.laidMetH_plain _ _ _ (by kernel_rfl)]; exact laidMet_laidAll _ (by kernel_rfl) (by kernel_rfl))) ?_
  intro W base args ds gs before hval hW _ _ hL _
  exact lawHolds Tryz.func8 (by kernel_rfl) rfl (fun ds hd => by
    match ds, hd with
    | [d1], _ => rfl) (by rw [Tryz.params8]; intro t ht; simp at ht; rcases ht with rfl <;> kernel_rfl) (by rw [Tryz.params8]; intro t ht; simp at ht; rcases ht with rfl <;> exact ⟨by kernel_rfl, of_decide_eq_true (by kernel_rfl)⟩)
    (fun hT avs h => law8 hT avs h) W base args ds gs before hval hW (laidSub hL)
theorem in8 : (Rows.shiftReadsRow.inPlace == Tryz.prog.inPlace 8) = true := by kernel_rfl
theorem unf8 : (Rows.shiftReadsRow.unfollowed == Tryz.prog.unfollowed 8) = true := by kernel_rfl
theorem rec8 : (Rows.shiftReadsRow.recurses == Tryz.prog.recurses 8) = true := by kernel_rfl
theorem nam8 : (Rows.shiftReadsRow.named == Tryz.prog.varsNamed 8) = true := by kernel_rfl
theorem closed8 : joinedFacts Tryz.prog 8 Tryz.f8 Rows.shiftReadsSpec Rows.shiftReadsRow = true := by
  unfold joinedFacts
  rw [enter_ok, lifts_ok, make_ok]
  repeat' (with_reducible apply and_mk)
  all_goals (first | with_reducible exact laidOut | with_reducible exact rowed | with_reducible exact in8 | with_reducible exact unf8 | with_reducible exact rec8 | with_reducible exact nam8 | kernel_rfl)
theorem shiftReads_holds : Rows.ShiftReadsSaid :=
  OpenClaim.holds_of_wide 8 Tryz.f8 rfl rfl rfl rfl rfl rfl rfl ⟨rfl, rfl, rfl, rfl, rfl⟩ rfl rfl rfl rfl rfl (by kernel_rfl) Tryz.func8 closed8
    (of_decide_eq_true (by kernel_rfl)) (by unfold Func.isWrapper; rw [if_neg (of_decide_eq_false (by kernel_rfl))]; exact ⟨rfl, rfl⟩)
    (fun os started H enc _ => shiftReads_lifted os started H enc)
theorem goes8 : false = Rows.shiftReadsRow.goesBy Tryz.prog := by kernel_rfl
theorem shiftReads_card : Rows.ShiftReadsCardSaid :=
  Claim7.holds_tied_plain_at .later [] [.data, .data, .data, .data, .pinned] true (true, "3790dbe7c969a99d29e58b9f33dbbd4b1fc1d34e5e69bc51fcfea29329c8fa80") true shiftReads_holds (fun _ h => by cases h) (by kernel_rfl) (fun _ h => by cases h) shiftReads_row_tie rfl ⟨rfl, rfl⟩ main_ok rfl
    (fun f fn hf hfn => by
      obtain rfl : f = 8 := Option.some.inj ((show Tryz.prog.funcNamed "nacre/nacrelaw05.ShiftReads" = some 8 by kernel_rfl).symm.trans hf) |>.symm
      obtain rfl : fn = Tryz.f8 := (Option.some.inj (Tryz.func8.symm.trans hfn)).symm
      exact ⟨looks_ok, fun j t ht => by
        rw [Tryz.params8] at ht
        have hm : t ∈ [9] := by simpa using Array.mem_of_getElem? ht
        have hall : ([9].all fun u => !Tryz.prog.wantsStandIn u) = true := by kernel_rfl
        exact (show Tryz.prog.wantsStandIn t = false by simpa using List.all_eq_true.1 hall t hm)⟩)
    goes8
end Go.Proofs.YtkpbdjpekjdhcaaGreatDoor
