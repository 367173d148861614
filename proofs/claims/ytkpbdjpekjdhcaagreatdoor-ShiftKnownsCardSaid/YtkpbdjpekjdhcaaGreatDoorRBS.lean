/-
  A part of the proof: contracts of functions.
-/
import Derived.Test.YtkpbdjpekjdhcaaGreatDoorRAV
import Derived.Test.YtkpbdjpekjdhcaaGreatDoorRXVG
import Derived.Test.YtkpbdjpekjdhcaaGreatDoorRBM
import Derived.Test.YtkpbdjpekjdhcaaGreatDoorRBI
import Derived.Test.YtkpbdjpekjdhcaaGreatDoorCards
set_option linter.unusedSimpArgs false
set_option linter.unusedVariables false
set_option linter.unusedSectionVars false
set_option maxRecDepth 100000
namespace Go.Proofs.YtkpbdjpekjdhcaaGreatDoor
open Go Go.AM Go.ChangeShapes Go.WideShapes Go.ChangeAt Go.RowKit
theorem law3 [Keep] (hT : TabK Tryz.prog) (avs : List AV) (h : ArgsOk Tryz.prog Tryz.f3.params.toList avs) : ∃ X, X.P = Tryz.prog ∧ Sound X ∧ ∃ h', Cl X 3 avs emptyHp (.ret (.bool true) h' none) := by
 rw [Tryz.params3] at h
 rcases h with _ | ⟨k1, _ | _⟩
 obtain ⟨ra, fa, oa, ha, m, rfl, v⟩ := Sh.houseI k1
 rw [ag27]
 exact ⟨dX c3, rfl, c3_sound hT, (T3 ra fa oa ha m v).gives⟩
theorem shiftKnowns_lifted (os : Os) (started : os.Started) (H : Type) (enc : TypeId × Value → H) :
  ReturnsInHanded {} Tryz.checked os 3 .any (fun w args => (Rows.shiftKnownsSpec.pre enc Tryz.prog Tryz.f3 Rows.shiftKnownsRow.domain false w args ∧ laidMetH Tryz.prog laidL5 w) ∧ sizedMet enc Tryz.prog Tryz.f3 (OpenSpec.ofChange Rows.shiftKnownsSpec) false w args)
   (Rows.shiftKnownsSpec.post enc Tryz.prog Tryz.f3 false true false false) := by
 refine returnsInHanded_of_change_and (C := Tryz.checked) (X := fun w _ => laidMetH Tryz.prog laidL5 w) (fun _ _ _ hh h => h.of_heap hh) own started (by kernel_rfl) Tryz.func3
  (ChangeSpec.witness_shaped (enc := enc) (C := Tryz.checked) (os := os) (X := fun w _ => laidMetH Tryz.prog laidL5 w) false (World.laidAll Tryz.prog os laidL5) #[.agg #[.int .i64 0, .slice none 0 0, .slice none 0 0, .slice none 0 0, .slice none 0 0]] 8 (World.laidAll_os _ _ _)
   (World.shaped_of_ZipB (by kernel_rfl) (by kernel_rfl)) (by kernel_rfl) (by kernel_rfl) (by kernel_rfl)
   (by rw [MakeChecks.laidMetH_plain _ _ _ (by kernel_rfl)]; exact laidMet_laidAll _ (by kernel_rfl) (by kernel_rfl))) ?_
 intro W base args ds gs before hval hW _ _ hL _
 exact lawHolds Tryz.func3 (by kernel_rfl) rfl (fun ds hd => by
  match ds, hd with
  | [d1], _ => rfl) (by rw [Tryz.params3]; intro t ht; simp at ht; rcases ht with rfl <;> kernel_rfl) (by rw [Tryz.params3]; intro t ht; simp at ht; rcases ht with rfl <;> exact ⟨by kernel_rfl, of_decide_eq_true (by kernel_rfl)⟩)
  (fun hT avs h => law3 hT avs h) W base args ds gs before hval hW (laidSub hL)
theorem in3 : (Rows.shiftKnownsRow.inPlace == Tryz.prog.inPlace 3) = true := by kernel_rfl
theorem unf3 : (Rows.shiftKnownsRow.unfollowed == Tryz.prog.unfollowed 3) = true := by kernel_rfl
theorem rec3 : (Rows.shiftKnownsRow.recurses == Tryz.prog.recurses 3) = true := by kernel_rfl
theorem nam3 : (Rows.shiftKnownsRow.named == Tryz.prog.varsNamed 3) = true := by kernel_rfl
theorem closed3 : joinedFacts Tryz.prog 3 Tryz.f3 Rows.shiftKnownsSpec Rows.shiftKnownsRow = true := by
 unfold joinedFacts
 rw [enter_ok, lifts_ok, make_ok]
 repeat' (with_reducible apply and_mk)
 all_goals (first | with_reducible exact laidOut | with_reducible exact rowed | with_reducible exact in3 | with_reducible exact unf3 | with_reducible exact rec3 | with_reducible exact nam3 | kernel_rfl)
theorem shiftKnowns_holds : Rows.ShiftKnownsSaid :=
 OpenClaim.holds_of_wide 3 Tryz.f3 rfl rfl rfl rfl rfl rfl rfl ⟨rfl, rfl, rfl, rfl, rfl⟩ rfl rfl rfl rfl rfl (by kernel_rfl) Tryz.func3 closed3
  (of_decide_eq_true (by kernel_rfl)) (by unfold Func.isWrapper; rw [if_neg (of_decide_eq_false (by kernel_rfl))]; exact ⟨rfl, rfl⟩)
  (fun os started H enc _ => shiftKnowns_lifted os started H enc)
theorem goes3 : false = Rows.shiftKnownsRow.goesBy Tryz.prog := by kernel_rfl
theorem shiftKnowns_card : Rows.ShiftKnownsCardSaid :=
 Claim7.holds_tied_plain_at .later [] [.data, .data, .data, .data, .pinned] true (true, "3790dbe7c969a99d29e58b9f33dbbd4b1fc1d34e5e69bc51fcfea29329c8fa80") true shiftKnowns_holds (fun _ h => by cases h) (by kernel_rfl) (fun _ h => by cases h) shiftKnowns_row_tie rfl ⟨rfl, rfl⟩ main_ok rfl
  (fun f fn hf hfn => by
   obtain rfl : f = 3 := Option.some.inj ((show Tryz.prog.funcNamed "nacre/nacrelaw05.ShiftKnowns" = some 3 by kernel_rfl).symm.trans hf) |>.symm
   obtain rfl : fn = Tryz.f3 := (Option.some.inj (Tryz.func3.symm.trans hfn)).symm
   exact ⟨looks_ok, fun j t ht => by
    rw [Tryz.params3] at ht
    have hm : t ∈ [27] := by simpa using Array.mem_of_getElem? ht
    have hall : ([27].all fun u => !Tryz.prog.wantsStandIn u) = true := by kernel_rfl
    exact (show Tryz.prog.wantsStandIn t = false by simpa using List.all_eq_true.1 hall t hm)⟩)
  goes3
end Go.Proofs.YtkpbdjpekjdhcaaGreatDoor
