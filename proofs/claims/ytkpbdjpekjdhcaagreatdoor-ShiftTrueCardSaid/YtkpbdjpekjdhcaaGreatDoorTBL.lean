/-
  ShiftTrue: whatever is true, and whatever fails, the dust of each room in each hour lies within its bounds; with more dust made there is no less; a fan that fails leaves no less, a machine no more. No condition but the row's own: the tables of Go's library that it lists hold what the program's text lays there.
-/
import Derived.Test.YtkpbdjpekjdhcaaGreatDoorTAV
import Derived.Test.YtkpbdjpekjdhcaaGreatDoorTXVG
import Derived.Test.YtkpbdjpekjdhcaaGreatDoorTBJ
import Derived.Test.YtkpbdjpekjdhcaaGreatDoorTBK
import Derived.Test.YtkpbdjpekjdhcaaGreatDoorCards
set_option linter.unusedSimpArgs false
set_option linter.unusedVariables false
set_option linter.unusedSectionVars false
set_option maxRecDepth 100000
namespace Go.Proofs.YtkpbdjpekjdhcaaGreatDoor
open Go Go.AM Go.ChangeShapes Go.WideShapes Go.ChangeAt Go.RowKit
theorem law16 [Keep] (hT : TabK Tryz.prog) (avs : List AV) (h : ArgsOk Tryz.prog Tryz.f16.params.toList avs) : ∃ X, X.P = Tryz.prog ∧ Sound X ∧ ∃ h', Cl X 16 avs emptyHp (.ret (.bool true) h' none) := by
 rw [Tryz.params16] at h
 rcases h with _ | ⟨k1, _ | ⟨k2, _ | ⟨k3, _ | _⟩⟩⟩
 obtain ⟨ra, fa, oa, ha, m, rfl, v⟩ := Sh.houseI k1
 obtain ⟨dv, g, x, rfl, q⟩ := Sh.truth k2
 obtain ⟨ev, l, rfl, ql⟩ := Sh.lists k3
 rw [ag27, ag109, ag36]
 exact ⟨dX cX16, rfl, cX16_sound hT, (T16 ra fa oa ha dv ev m g l x v q ql).gives⟩
theorem shiftTrue_lifted (os : Os) (started : os.Started) (H : Type) (enc : TypeId × Value → H) :
  ReturnsInHanded {} Tryz.checked os 16 .any (fun w args => (Rows.shiftTrueSpec.pre enc Tryz.prog Tryz.f16 Rows.shiftTrueRow.domain false w args ∧ laidMetH Tryz.prog laidL5 w) ∧ sizedMet enc Tryz.prog Tryz.f16 (OpenSpec.ofChange Rows.shiftTrueSpec) false w args)
   (Rows.shiftTrueSpec.post enc Tryz.prog Tryz.f16 false true false false) := by
 refine returnsInHanded_of_change_and (C := Tryz.checked) (X := fun w _ => laidMetH Tryz.prog laidL5 w) (fun _ _ _ hh h => h.of_heap hh) own started (by kernel_rfl) Tryz.func16
  (ChangeSpec.witness_shaped (enc := enc) (C := Tryz.checked) (os := os) (X := fun w _ => laidMetH Tryz.prog laidL5 w) false (World.laidAll Tryz.prog os laidL5) #[.agg #[.int .i64 0, .slice none 0 0, .slice none 0 0, .slice none 0 0, .slice none 0 0], .agg #[.slice none 0 0, .int .i64 0, .int .i64 0, .int .i64 0], .slice none 0 0] 8 (World.laidAll_os _ _ _)
   (World.shaped_of_ZipB (by kernel_rfl) (by kernel_rfl)) (by kernel_rfl) (by kernel_rfl) (by kernel_rfl)
   (by rw [MakeChecks.laidMetH_plain _ _ _ (by kernel_rfl)]; exact laidMet_laidAll _ (by kernel_rfl) (by kernel_rfl))) ?_
 intro W base args ds gs before hval hW _ _ hL _
 exact lawHolds Tryz.func16 (by kernel_rfl) rfl (fun ds hd => by
  match ds, hd with
  | [d1, d2, d3], _ => rfl) (by rw [Tryz.params16]; intro t ht; simp at ht; rcases ht with rfl | rfl | rfl <;> kernel_rfl) (by rw [Tryz.params16]; intro t ht; simp at ht; rcases ht with rfl | rfl | rfl <;> exact ⟨by kernel_rfl, of_decide_eq_true (by kernel_rfl)⟩)
  (fun hT avs h => law16 hT avs h) W base args ds gs before hval hW (laidSub hL)
theorem in16 : (Rows.shiftTrueRow.inPlace == Tryz.prog.inPlace 16) = true := by kernel_rfl
theorem unf16 : (Rows.shiftTrueRow.unfollowed == Tryz.prog.unfollowed 16) = true := by kernel_rfl
theorem rec16 : (Rows.shiftTrueRow.recurses == Tryz.prog.recurses 16) = true := by kernel_rfl
theorem nam16 : (Rows.shiftTrueRow.named == Tryz.prog.varsNamed 16) = true := by kernel_rfl
theorem closed16 : joinedFacts Tryz.prog 16 Tryz.f16 Rows.shiftTrueSpec Rows.shiftTrueRow = true := by
 unfold joinedFacts
 rw [enter_ok, lifts_ok, make_ok]
 repeat' (with_reducible apply and_mk)
 all_goals (first | with_reducible exact laidOut | with_reducible exact rowed | with_reducible exact in16 | with_reducible exact unf16 | with_reducible exact rec16 | with_reducible exact nam16 | kernel_rfl)
theorem shiftTrue_holds : Rows.ShiftTrueSaid :=
 OpenClaim.holds_of_wide 16 Tryz.f16 rfl rfl rfl rfl rfl rfl rfl ⟨rfl, rfl, rfl, rfl, rfl⟩ rfl rfl rfl rfl rfl (by kernel_rfl) Tryz.func16 closed16
  (of_decide_eq_true (by kernel_rfl)) (by unfold Func.isWrapper; rw [if_neg (of_decide_eq_false (by kernel_rfl))]; exact ⟨rfl, rfl⟩)
  (fun os started H enc _ => shiftTrue_lifted os started H enc)
theorem goes16 : false = Rows.shiftTrueRow.goesBy Tryz.prog := by kernel_rfl
theorem shiftTrue_card : Rows.ShiftTrueCardSaid :=
 Claim7.holds_tied_plain_at .later [] [.data, .data, .data, .data, .pinned] true (true, "3790dbe7c969a99d29e58b9f33dbbd4b1fc1d34e5e69bc51fcfea29329c8fa80") true shiftTrue_holds (fun _ h => by cases h) (by kernel_rfl) (fun _ h => by cases h) shiftTrue_row_tie rfl ⟨rfl, rfl⟩ main_ok rfl
  (fun f fn hf hfn => by
   obtain rfl : f = 16 := Option.some.inj ((show Tryz.prog.funcNamed "nacre/nacrelaw05.ShiftTrue" = some 16 by kernel_rfl).symm.trans hf) |>.symm
   obtain rfl : fn = Tryz.f16 := (Option.some.inj (Tryz.func16.symm.trans hfn)).symm
   exact ⟨looks_ok, fun j t ht => by
    rw [Tryz.params16] at ht
    have hm : t ∈ [27, 109, 36] := by simpa using Array.mem_of_getElem? ht
    have hall : ([27, 109, 36].all fun u => !Tryz.prog.wantsStandIn u) = true := by kernel_rfl
    exact (show Tryz.prog.wantsStandIn t = false by simpa using List.all_eq_true.1 hall t hm)⟩)
  goes16
end Go.Proofs.YtkpbdjpekjdhcaaGreatDoor
