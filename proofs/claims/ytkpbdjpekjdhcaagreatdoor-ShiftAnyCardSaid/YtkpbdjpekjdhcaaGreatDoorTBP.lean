/-
  ShiftAny: whatever the order of a duty, no more is breathed than on its worst path, and no less at most than on its best one. No condition but the row's own: the tables of Go's library that it lists hold what the program's text lays there.
-/
import Derived.Test.YtkpbdjpekjdhcaaGreatDoorTAV
import Derived.Test.YtkpbdjpekjdhcaaGreatDoorTXVG
import Derived.Test.YtkpbdjpekjdhcaaGreatDoorTBN
import Derived.Test.YtkpbdjpekjdhcaaGreatDoorTBO
import Derived.Test.YtkpbdjpekjdhcaaGreatDoorCards
set_option linter.unusedSimpArgs false
set_option linter.unusedVariables false
set_option linter.unusedSectionVars false
set_option maxRecDepth 100000
namespace Go.Proofs.YtkpbdjpekjdhcaaGreatDoor
open Go Go.AM Go.ChangeShapes Go.WideShapes Go.ChangeAt Go.RowKit
theorem law14 [Keep] (hT : TabK Tryz.prog) (avs : List AV) (h : ArgsOk Tryz.prog Tryz.f14.params.toList avs) : ∃ X, X.P = Tryz.prog ∧ Sound X ∧ ∃ h', Cl X 14 avs emptyHp (.ret (.bool true) h' none) := by
 rw [Tryz.params14] at h
 rcases h with _ | ⟨k1, _ | ⟨k2, _ | ⟨k3, _ | _⟩⟩⟩
 obtain ⟨ra, fa, oa, ha, m, rfl, v⟩ := Sh.houseI k1
 obtain ⟨pa, p, rfl, q⟩ := Sh.ints k2
 obtain ⟨n, rfl⟩ := Sh.i64 k3
 rw [ag27, ag24, ag3]
 exact ⟨dX c14, rfl, c14_sound hT, (T14 ra fa oa ha pa m n p v q).gives⟩
theorem shiftAny_lifted (os : Os) (started : os.Started) (H : Type) (enc : TypeId × Value → H) :
  ReturnsInHanded {} Tryz.checked os 14 .any (fun w args => (Rows.shiftAnySpec.pre enc Tryz.prog Tryz.f14 Rows.shiftAnyRow.domain false w args ∧ laidMetH Tryz.prog laidL5 w) ∧ sizedMet enc Tryz.prog Tryz.f14 (OpenSpec.ofChange Rows.shiftAnySpec) false w args)
   (Rows.shiftAnySpec.post enc Tryz.prog Tryz.f14 false true false false) := by
 refine returnsInHanded_of_change_and (C := Tryz.checked) (X := fun w _ => laidMetH Tryz.prog laidL5 w) (fun _ _ _ hh h => h.of_heap hh) own started (by kernel_rfl) Tryz.func14
  (ChangeSpec.witness_shaped (enc := enc) (C := Tryz.checked) (os := os) (X := fun w _ => laidMetH Tryz.prog laidL5 w) false (World.laidAll Tryz.prog os laidL5) #[.agg #[.int .i64 0, .slice none 0 0, .slice none 0 0, .slice none 0 0, .slice none 0 0], .slice none 0 0, .int .i64 0] 8 (World.laidAll_os _ _ _)
   (World.shaped_of_ZipB (by kernel_rfl) (by kernel_rfl)) (by kernel_rfl) (by kernel_rfl) (by kernel_rfl)
   (by rw [MakeChecks.laidMetH_plain _ _ _ (by kernel_rfl)]; exact laidMet_laidAll _ (by kernel_rfl) (by kernel_rfl))) ?_
 intro W base args ds gs before hval hW _ _ hL _
 exact lawHolds Tryz.func14 (by kernel_rfl) rfl (fun ds hd => by
  match ds, hd with
  | [d1, d2, d3], _ => rfl) (by rw [Tryz.params14]; intro t ht; simp at ht; rcases ht with rfl | rfl | rfl <;> kernel_rfl) (by rw [Tryz.params14]; intro t ht; simp at ht; rcases ht with rfl | rfl | rfl <;> exact ⟨by kernel_rfl, of_decide_eq_true (by kernel_rfl)⟩)
  (fun hT avs h => law14 hT avs h) W base args ds gs before hval hW (laidSub hL)
theorem in14 : (Rows.shiftAnyRow.inPlace == Tryz.prog.inPlace 14) = true := by kernel_rfl
theorem unf14 : (Rows.shiftAnyRow.unfollowed == Tryz.prog.unfollowed 14) = true := by kernel_rfl
theorem rec14 : (Rows.shiftAnyRow.recurses == Tryz.prog.recurses 14) = true := by kernel_rfl
theorem nam14 : (Rows.shiftAnyRow.named == Tryz.prog.varsNamed 14) = true := by kernel_rfl
theorem closed14 : joinedFacts Tryz.prog 14 Tryz.f14 Rows.shiftAnySpec Rows.shiftAnyRow = true := by
 unfold joinedFacts
 rw [enter_ok, lifts_ok, make_ok]
 repeat' (with_reducible apply and_mk)
 all_goals (first | with_reducible exact laidOut | with_reducible exact rowed | with_reducible exact in14 | with_reducible exact unf14 | with_reducible exact rec14 | with_reducible exact nam14 | kernel_rfl)
theorem shiftAny_holds : Rows.ShiftAnySaid :=
 OpenClaim.holds_of_wide 14 Tryz.f14 rfl rfl rfl rfl rfl rfl rfl ⟨rfl, rfl, rfl, rfl, rfl⟩ rfl rfl rfl rfl rfl (by kernel_rfl) Tryz.func14 closed14
  (of_decide_eq_true (by kernel_rfl)) (by unfold Func.isWrapper; rw [if_neg (of_decide_eq_false (by kernel_rfl))]; exact ⟨rfl, rfl⟩)
  (fun os started H enc _ => shiftAny_lifted os started H enc)
theorem goes14 : false = Rows.shiftAnyRow.goesBy Tryz.prog := by kernel_rfl
theorem shiftAny_card : Rows.ShiftAnyCardSaid :=
 Claim7.holds_tied_plain_at .later [] [.data, .data, .data, .data, .pinned] true (true, "3790dbe7c969a99d29e58b9f33dbbd4b1fc1d34e5e69bc51fcfea29329c8fa80") true shiftAny_holds (fun _ h => by cases h) (by kernel_rfl) (fun _ h => by cases h) shiftAny_row_tie rfl ⟨rfl, rfl⟩ main_ok rfl
  (fun f fn hf hfn => by
   obtain rfl : f = 14 := Option.some.inj ((show Tryz.prog.funcNamed "nacre/nacrelaw05.ShiftAny" = some 14 by kernel_rfl).symm.trans hf) |>.symm
   obtain rfl : fn = Tryz.f14 := (Option.some.inj (Tryz.func14.symm.trans hfn)).symm
   exact ⟨looks_ok, fun j t ht => by
    rw [Tryz.params14] at ht
    have hm : t ∈ [27, 24, 3] := by simpa using Array.mem_of_getElem? ht
    have hall : ([27, 24, 3].all fun u => !Tryz.prog.wantsStandIn u) = true := by kernel_rfl
    exact (show Tryz.prog.wantsStandIn t = false by simpa using List.all_eq_true.1 hall t hm)⟩)
  goes14
end Go.Proofs.YtkpbdjpekjdhcaaGreatDoor
