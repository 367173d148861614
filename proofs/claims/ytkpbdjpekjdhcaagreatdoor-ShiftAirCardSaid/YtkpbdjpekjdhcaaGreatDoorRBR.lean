/-
  A part of the proof: contracts of functions.
-/
import Derived.Test.YtkpbdjpekjdhcaaGreatDoorRAV
import Derived.Test.YtkpbdjpekjdhcaaGreatDoorRXVG
import Derived.Test.YtkpbdjpekjdhcaaGreatDoorRBH
import Derived.Test.YtkpbdjpekjdhcaaGreatDoorRBI
import Derived.Test.YtkpbdjpekjdhcaaGreatDoorCards
set_option linter.unusedSimpArgs false
set_option linter.unusedVariables false
set_option linter.unusedSectionVars false
set_option maxRecDepth 100000
namespace Go.Proofs.YtkpbdjpekjdhcaaGreatDoor
open Go Go.AM Go.ChangeShapes Go.WideShapes Go.ChangeAt Go.RowKit
theorem law17 [Keep] (hT : TabK Tryz.prog) (avs : List AV) (h : ArgsOk Tryz.prog Tryz.f17.params.toList avs) : ∃ X, X.P = Tryz.prog ∧ Sound X ∧ ∃ h', Cl X 17 avs emptyHp (.ret (.bool true) h' none) := by
 rw [Tryz.params17] at h
 rcases h with _ | ⟨k1, _ | ⟨k2, _ | ⟨k3, _ | _⟩⟩⟩
 obtain ⟨ra, fa, oa, ha, m, rfl, v⟩ := Sh.houseI k1
 obtain ⟨pa, p, rfl, qp⟩ := Sh.ints k2
 obtain ⟨dv, g, x, rfl, q⟩ := Sh.truth k3
 rw [ag27, ag24, ag109]
 exact ⟨dX c17, rfl, c17_sound hT, (T17 ra fa oa ha pa dv m p g x v qp q).gives⟩
theorem shiftAir_lifted (os : Os) (started : os.Started) (H : Type) (enc : TypeId × Value → H) :
  ReturnsInHanded {} Tryz.checked os 17 .any (fun w args => (Rows.shiftAirSpec.pre enc Tryz.prog Tryz.f17 Rows.shiftAirRow.domain false w args ∧ laidMetH Tryz.prog laidL5 w) ∧ sizedMet enc Tryz.prog Tryz.f17 (OpenSpec.ofChange Rows.shiftAirSpec) false w args)
   (Rows.shiftAirSpec.post enc Tryz.prog Tryz.f17 false true false false) := by
 refine returnsInHanded_of_change_and (C := Tryz.checked) (X := fun w _ => laidMetH Tryz.prog laidL5 w) (fun _ _ _ hh h => h.of_heap hh) own started (by kernel_rfl) Tryz.func17
  (ChangeSpec.witness_shaped (enc := enc) (C := Tryz.checked) (os := os) (X := fun w _ => laidMetH Tryz.prog laidL5 w) false (World.laidAll Tryz.prog os laidL5) #[.agg #[.int .i64 0, .slice none 0 0, .slice none 0 0, .slice none 0 0, .slice none 0 0], .slice none 0 0, .agg #[.slice none 0 0, .int .i64 0, .int .i64 0, .int .i64 0]] 8 (World.laidAll_os _ _ _)
   (World.shaped_of_ZipB (by kernel_rfl) (by kernel_rfl)) (by kernel_rfl) (by kernel_rfl) (by kernel_rfl)
   (by rw [MakeChecks.laidMetH_plain _ _ _ (by kernel_rfl)]; exact laidMet_laidAll _ (by kernel_rfl) (by kernel_rfl))) ?_
 intro W base args ds gs before hval hW _ _ hL _
 exact lawHolds Tryz.func17 (by kernel_rfl) rfl (fun ds hd => by
  match ds, hd with
  | [d1, d2, d3], _ => rfl) (by rw [Tryz.params17]; intro t ht; simp at ht; rcases ht with rfl | rfl | rfl <;> kernel_rfl) (by rw [Tryz.params17]; intro t ht; simp at ht; rcases ht with rfl | rfl | rfl <;> exact ⟨by kernel_rfl, of_decide_eq_true (by kernel_rfl)⟩)
  (fun hT avs h => law17 hT avs h) W base args ds gs before hval hW (laidSub hL)
theorem in17 : (Rows.shiftAirRow.inPlace == Tryz.prog.inPlace 17) = true := by kernel_rfl
theorem unf17 : (Rows.shiftAirRow.unfollowed == Tryz.prog.unfollowed 17) = true := by kernel_rfl
theorem rec17 : (Rows.shiftAirRow.recurses == Tryz.prog.recurses 17) = true := by kernel_rfl
theorem nam17 : (Rows.shiftAirRow.named == Tryz.prog.varsNamed 17) = true := by kernel_rfl
theorem closed17 : joinedFacts Tryz.prog 17 Tryz.f17 Rows.shiftAirSpec Rows.shiftAirRow = true := by
 unfold joinedFacts
 rw [enter_ok, lifts_ok, make_ok]
 repeat' (with_reducible apply and_mk)
 all_goals (first | with_reducible exact laidOut | with_reducible exact rowed | with_reducible exact in17 | with_reducible exact unf17 | with_reducible exact rec17 | with_reducible exact nam17 | kernel_rfl)
theorem shiftAir_holds : Rows.ShiftAirSaid :=
 OpenClaim.holds_of_wide 17 Tryz.f17 rfl rfl rfl rfl rfl rfl rfl ⟨rfl, rfl, rfl, rfl, rfl⟩ rfl rfl rfl rfl rfl (by kernel_rfl) Tryz.func17 closed17
  (of_decide_eq_true (by kernel_rfl)) (by unfold Func.isWrapper; rw [if_neg (of_decide_eq_false (by kernel_rfl))]; exact ⟨rfl, rfl⟩)
  (fun os started H enc _ => shiftAir_lifted os started H enc)
theorem goes17 : false = Rows.shiftAirRow.goesBy Tryz.prog := by kernel_rfl
theorem shiftAir_card : Rows.ShiftAirCardSaid :=
 Claim7.holds_tied_plain_at .later [] [.data, .data, .data, .data, .pinned] true (true, "3790dbe7c969a99d29e58b9f33dbbd4b1fc1d34e5e69bc51fcfea29329c8fa80") true shiftAir_holds (fun _ h => by cases h) (by kernel_rfl) (fun _ h => by cases h) shiftAir_row_tie rfl ⟨rfl, rfl⟩ main_ok rfl
  (fun f fn hf hfn => by
   obtain rfl : f = 17 := Option.some.inj ((show Tryz.prog.funcNamed "nacre/nacrelaw05.ShiftAir" = some 17 by kernel_rfl).symm.trans hf) |>.symm
   obtain rfl : fn = Tryz.f17 := (Option.some.inj (Tryz.func17.symm.trans hfn)).symm
   exact ⟨looks_ok, fun j t ht => by
    rw [Tryz.params17] at ht
    have hm : t ∈ [27, 24, 109] := by simpa using Array.mem_of_getElem? ht
    have hall : ([27, 24, 109].all fun u => !Tryz.prog.wantsStandIn u) = true := by kernel_rfl
    exact (show Tryz.prog.wantsStandIn t = false by simpa using List.all_eq_true.1 hall t hm)⟩)
  goes17
end Go.Proofs.YtkpbdjpekjdhcaaGreatDoor
