/-
  ShiftWas: whatever is true, if a mask was read within Off, its hand was in each hour where the program tells, and so it is for each path with which the mask agrees. No condition but the row's own: the tables of Go's library that it lists hold what the program's text lays there.
-/
import Derived.Test.YtkpbdjpekjdhcaaGreatDoorRAV
import Derived.Test.YtkpbdjpekjdhcaaGreatDoorRXVG
import Derived.Test.YtkpbdjpekjdhcaaGreatDoorRBS
import Derived.Test.YtkpbdjpekjdhcaaGreatDoorRBM
import Derived.Test.YtkpbdjpekjdhcaaGreatDoorCards
set_option linter.unusedSimpArgs false
set_option linter.unusedVariables false
set_option linter.unusedSectionVars false
set_option maxRecDepth 100000
namespace Go.Proofs.YtkpbdjpekjdhcaaGreatDoor
open Go Go.AM Go.ChangeShapes Go.WideShapes Go.ChangeAt Go.RowKit
theorem law19 [Keep] (hT : TabK Tryz.prog) (avs : List AV) (h : ArgsOk Tryz.prog Tryz.f19.params.toList avs) : ∃ X, X.P = Tryz.prog ∧ Sound X ∧ ∃ h', Cl X 19 avs emptyHp (.ret (.bool true) h' none) := by
 rw [Tryz.params19] at h
 rcases h with _ | ⟨k1, _ | ⟨k2, _ | ⟨k3, _ | ⟨k4, _ | ⟨k5, _ | _⟩⟩⟩⟩⟩
 obtain ⟨ra, fa, oa, ha, m, rfl, v⟩ := Sh.houseI k1
 obtain ⟨pa, p, rfl, qp⟩ := Sh.ints k2
 obtain ⟨dv, g, x, rfl, q⟩ := Sh.truth k3
 obtain ⟨off, rfl⟩ := Sh.i64 k4
 obtain ⟨by_, rfl⟩ := Sh.i64 k5
 rw [ag27, ag24, ag109, ag3]
 exact ⟨dX c19, rfl, c19_sound hT, (T19 ra fa oa ha pa dv m p g x off by_ v qp q).gives⟩
theorem shiftWas_lifted (os : Os) (started : os.Started) (H : Type) (enc : TypeId × Value → H) :
  ReturnsInHanded {} Tryz.checked os 19 .any (fun w args => (Rows.shiftWasSpec.pre enc Tryz.prog Tryz.f19 Rows.shiftWasRow.domain false w args ∧ laidMetH Tryz.prog laidL5 w) ∧ sizedMet enc Tryz.prog Tryz.f19 (OpenSpec.ofChange Rows.shiftWasSpec) false w args)
   (Rows.shiftWasSpec.post enc Tryz.prog Tryz.f19 false true false false) := by
 refine returnsInHanded_of_change_and (C := Tryz.checked) (X := fun w _ => laidMetH Tryz.prog laidL5 w) (fun _ _ _ hh h => h.of_heap hh) own started (by kernel_rfl) Tryz.func19
  (ChangeSpec.witness_shaped (enc := enc) (C := Tryz.checked) (os := os) (X := fun w _ => laidMetH Tryz.prog laidL5 w) false (World.laidAll Tryz.prog os laidL5) #[.agg #[.int .i64 0, .slice none 0 0, .slice none 0 0, .slice none 0 0, .slice none 0 0], .slice none 0 0, .agg #[.slice none 0 0, .int .i64 0, .int .i64 0, .int .i64 0], .int .i64 0, .int .i64 0] 8 (World.laidAll_os _ _ _)
   (World.shaped_of_ZipB (by kernel_rfl) (by kernel_rfl)) (by kernel_rfl) (by kernel_rfl) (by kernel_rfl)
   (by rw [MakeChecks.laidMetH_plain _ _ _ (by kernel_rfl)]; exact laidMet_laidAll _ (by kernel_rfl) (by kernel_rfl))) ?_
 intro W base args ds gs before hval hW _ _ hL _
 exact lawHolds Tryz.func19 (by kernel_rfl) rfl (fun ds hd => by
  match ds, hd with
  | [d1, d2, d3, d4, d5], _ => rfl) (by rw [Tryz.params19]; intro t ht; simp at ht; rcases ht with rfl | rfl | rfl | rfl | rfl <;> kernel_rfl) (by rw [Tryz.params19]; intro t ht; simp at ht; rcases ht with rfl | rfl | rfl | rfl | rfl <;> exact ⟨by kernel_rfl, of_decide_eq_true (by kernel_rfl)⟩)
  (fun hT avs h => law19 hT avs h) W base args ds gs before hval hW (laidSub hL)
theorem in19 : (Rows.shiftWasRow.inPlace == Tryz.prog.inPlace 19) = true := by kernel_rfl
theorem unf19 : (Rows.shiftWasRow.unfollowed == Tryz.prog.unfollowed 19) = true := by kernel_rfl
theorem rec19 : (Rows.shiftWasRow.recurses == Tryz.prog.recurses 19) = true := by kernel_rfl
theorem nam19 : (Rows.shiftWasRow.named == Tryz.prog.varsNamed 19) = true := by kernel_rfl
theorem closed19 : joinedFacts Tryz.prog 19 Tryz.f19 Rows.shiftWasSpec Rows.shiftWasRow = true := by
 unfold joinedFacts
 rw [enter_ok, lifts_ok, make_ok]
 repeat' (with_reducible apply and_mk)
 all_goals (first | with_reducible exact laidOut | with_reducible exact rowed | with_reducible exact in19 | with_reducible exact unf19 | with_reducible exact rec19 | with_reducible exact nam19 | kernel_rfl)
theorem shiftWas_holds : Rows.ShiftWasSaid :=
 OpenClaim.holds_of_wide 19 Tryz.f19 rfl rfl rfl rfl rfl rfl rfl ⟨rfl, rfl, rfl, rfl, rfl⟩ rfl rfl rfl rfl rfl (by kernel_rfl) Tryz.func19 closed19
  (of_decide_eq_true (by kernel_rfl)) (by unfold Func.isWrapper; rw [if_neg (of_decide_eq_false (by kernel_rfl))]; exact ⟨rfl, rfl⟩)
  (fun os started H enc _ => shiftWas_lifted os started H enc)
theorem goes19 : false = Rows.shiftWasRow.goesBy Tryz.prog := by kernel_rfl
theorem shiftWas_card : Rows.ShiftWasCardSaid :=
 Claim7.holds_tied_plain_at .later [] [.data, .data, .data, .data, .pinned] true (true, "3790dbe7c969a99d29e58b9f33dbbd4b1fc1d34e5e69bc51fcfea29329c8fa80") true shiftWas_holds (fun _ h => by cases h) (by kernel_rfl) (fun _ h => by cases h) shiftWas_row_tie rfl ⟨rfl, rfl⟩ main_ok rfl
  (fun f fn hf hfn => by
   obtain rfl : f = 19 := Option.some.inj ((show Tryz.prog.funcNamed "nacre/nacrelaw05.ShiftWas" = some 19 by kernel_rfl).symm.trans hf) |>.symm
   obtain rfl : fn = Tryz.f19 := (Option.some.inj (Tryz.func19.symm.trans hfn)).symm
   exact ⟨looks_ok, fun j t ht => by
    rw [Tryz.params19] at ht
    have hm : t ∈ [27, 24, 109, 3, 3] := by simpa using Array.mem_of_getElem? ht
    have hall : ([27, 24, 109, 3, 3].all fun u => !Tryz.prog.wantsStandIn u) = true := by kernel_rfl
    exact (show Tryz.prog.wantsStandIn t = false by simpa using List.all_eq_true.1 hall t hm)⟩)
  goes19
end Go.Proofs.YtkpbdjpekjdhcaaGreatDoor
