/-
  The law of what is made, and of the dust, is true. No condition but the row's own: the tables of Go's library that it lists hold what the program's text lays there.
-/
import Derived.Test.YtkpbdjpekjdhcaaGreatDoorRAV
import Derived.Test.YtkpbdjpekjdhcaaGreatDoorRXVG
import Derived.Test.YtkpbdjpekjdhcaaGreatDoorRBB
import Derived.Test.YtkpbdjpekjdhcaaGreatDoorRBA
import Derived.Test.YtkpbdjpekjdhcaaGreatDoorCards
set_option linter.unusedSimpArgs false
set_option linter.unusedVariables false
set_option linter.unusedSectionVars false
set_option maxRecDepth 100000
namespace Go.Proofs.YtkpbdjpekjdhcaaGreatDoor
open Go Go.AM Go.ChangeShapes Go.WideShapes Go.ChangeAt Go.RowKit
theorem law20 [Keep] (hT : TabK Tryz.prog) (avs : List AV) (h : ArgsOk Tryz.prog Tryz.f20.params.toList avs) : ∃ X, X.P = Tryz.prog ∧ Sound X ∧ ∃ h', Cl X 20 avs emptyHp (.ret (.bool true) h' none) := by
  rw [Tryz.params20] at h
  rcases h with _ | ⟨k1, _ | ⟨k2, _ | _⟩⟩
  obtain ⟨ra, fa, oa, ha, m, rfl, v⟩ := Sh.houseI k1
  obtain ⟨dv, g, x, rfl, q⟩ := Sh.truth k2
  rw [ag27, ag109]
  exact ⟨dX c20, rfl, c20_sound hT, (T20 ra fa oa ha dv m g x v q).gives⟩
theorem shiftRuns_lifted (os : Os) (started : os.Started) (H : Type) (enc : TypeId × Value → H) :
    ReturnsInHanded {} Tryz.checked os 20 .any (fun w args => (Rows.shiftRunsSpec.pre enc Tryz.prog Tryz.f20 Rows.shiftRunsRow.domain false w args ∧ laidMetH Tryz.prog laidL5 w) ∧ sizedMet enc Tryz.prog Tryz.f20 (OpenSpec.ofChange Rows.shiftRunsSpec) false w args)
      (Rows.shiftRunsSpec.post enc Tryz.prog Tryz.f20 false true false false) := by
  refine returnsInHanded_of_change_and (C := Tryz.checked) (X := fun w _ => laidMetH Tryz.prog laidL5 w) (fun _ _ _ hh h => h.of_heap hh) own started (by kernel_rfl) Tryz.func20
    (ChangeSpec.witness_shaped (enc := enc) (C := Tryz.checked) (os := os) (X := fun w _ => laidMetH Tryz.prog laidL5 w) false (World.laidAll Tryz.prog os laidL5) #[.agg #[.int .i64 0, .slice none 0 0, .slice none 0 0, .slice none 0 0, .slice none 0 0], .agg #[.slice none 0 0, .int .i64 0, .int .i64 0, .int .i64 0]] 8 (World.laidAll_os _ _ _)
      (World.shaped_of_ZipB (by kernel_rfl) (by kernel_rfl)) (by kernel_rfl) (by kernel_rfl) (by kernel_rfl)
      (by rw [MakeChecks.laidMetH_plain _ _ _ (by kernel_rfl)]; exact laidMet_laidAll _ (by kernel_rfl) (by kernel_rfl))) ?_
  intro W base args ds gs before hval hW _ _ hL _
  exact lawHolds Tryz.func20 (by kernel_rfl) rfl (fun ds hd => by
    match ds, hd with
    | [d1, d2], _ => rfl) (by rw [Tryz.params20]; intro t ht; simp at ht; rcases ht with rfl | rfl <;> kernel_rfl) (by rw [Tryz.params20]; intro t ht; simp at ht; rcases ht with rfl | rfl <;> exact ⟨by kernel_rfl, of_decide_eq_true (by kernel_rfl)⟩)
    (fun hT avs h => law20 hT avs h) W base args ds gs before hval hW (laidSub hL)
theorem in20 : (Rows.shiftRunsRow.inPlace == Tryz.prog.inPlace 20) = true := by kernel_rfl
theorem unf20 : (Rows.shiftRunsRow.unfollowed == Tryz.prog.unfollowed 20) = true := by kernel_rfl
theorem rec20 : (Rows.shiftRunsRow.recurses == Tryz.prog.recurses 20) = true := by kernel_rfl
theorem nam20 : (Rows.shiftRunsRow.named == Tryz.prog.varsNamed 20) = true := by kernel_rfl
theorem closed20 : joinedFacts Tryz.prog 20 Tryz.f20 Rows.shiftRunsSpec Rows.shiftRunsRow = true := by
  unfold joinedFacts
  rw [enter_ok, lifts_ok, make_ok]
  repeat' (with_reducible apply and_mk)
  all_goals (first | with_reducible exact laidOut | with_reducible exact rowed | with_reducible exact in20 | with_reducible exact unf20 | with_reducible exact rec20 | with_reducible exact nam20 | kernel_rfl)
theorem shiftRuns_holds : Rows.ShiftRunsSaid :=
  OpenClaim.holds_of_wide 20 Tryz.f20 rfl rfl rfl rfl rfl rfl rfl ⟨rfl, rfl, rfl, rfl, rfl⟩ rfl rfl rfl rfl rfl (by kernel_rfl) Tryz.func20 closed20
    (of_decide_eq_true (by kernel_rfl)) (by unfold Func.isWrapper; rw [if_neg (of_decide_eq_false (by kernel_rfl))]; exact ⟨rfl, rfl⟩)
    (fun os started H enc _ => shiftRuns_lifted os started H enc)
theorem goes20 : false = Rows.shiftRunsRow.goesBy Tryz.prog := by kernel_rfl
theorem shiftRuns_card : Rows.ShiftRunsCardSaid :=
  Claim7.holds_tied_plain_at .later [] [.data, .data, .data, .data, .pinned] true (true, "3790dbe7c969a99d29e58b9f33dbbd4b1fc1d34e5e69bc51fcfea29329c8fa80") true shiftRuns_holds (fun _ h => by cases h) (by kernel_rfl) (fun _ h => by cases h) shiftRuns_row_tie rfl ⟨rfl, rfl⟩ main_ok rfl
    (fun f fn hf hfn => by
      obtain rfl : f = 20 := Option.some.inj ((show Tryz.prog.funcNamed "nacre/nacrelaw05.ShiftRuns" = some 20 by kernel_rfl).symm.trans hf) |>.symm
      obtain rfl : fn = Tryz.f20 := (Option.some.inj (Tryz.func20.symm.trans hfn)).symm
      exact ⟨looks_ok, fun j t ht => by
        rw [Tryz.params20] at ht
        have hm : t ∈ [27, 109] := by simpa using Array.mem_of_getElem? ht
        have hall : ([27, 109].all fun u => !Tryz.prog.wantsStandIn u) = true := by kernel_rfl
        exact (show Tryz.prog.wantsStandIn t = false by simpa using List.all_eq_true.1 hall t hm)⟩)
    goes20
end Go.Proofs.YtkpbdjpekjdhcaaGreatDoor
