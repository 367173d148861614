/-
  A part of the proof: contracts of functions.
-/
import Derived.Test.YtkpbdjpekjdhcaaGreatDoorRAV
import Derived.Test.YtkpbdjpekjdhcaaGreatDoorRXVG
import Derived.Test.YtkpbdjpekjdhcaaGreatDoorRBL
import Derived.Test.YtkpbdjpekjdhcaaGreatDoorRBM
import Derived.Test.YtkpbdjpekjdhcaaGreatDoorCards
set_option linter.unusedSimpArgs false
set_option linter.unusedVariables false
set_option linter.unusedSectionVars false
set_option maxRecDepth 100000
namespace Go.Proofs.YtkpbdjpekjdhcaaGreatDoor
open Go Go.AM Go.ChangeShapes Go.WideShapes Go.ChangeAt Go.RowKit
theorem law18 [Keep] (hT : TabK Tryz.prog) (avs : List AV) (h : ArgsOk Tryz.prog Tryz.f18.params.toList avs) : ∃ X, X.P = Tryz.prog ∧ Sound X ∧ ∃ h', Cl X 18 avs emptyHp (.ret (.bool true) h' none) := by
 rw [Tryz.params18] at h
 rcases h with _ | ⟨k1, _ | ⟨k2, _ | ⟨k3, _ | _⟩⟩⟩
 obtain ⟨ra, fa, oa, ha, m, rfl, v⟩ := Sh.houseI k1
 obtain ⟨lv, l, rfl, ql⟩ := Sh.lists k2
 obtain ⟨dv, g, x, rfl, q⟩ := Sh.truth k3
 rw [ag27, ag36, ag109]
 exact ⟨dX c18, rfl, c18_sound hT, (T18 ra fa oa ha lv dv m l g x v ql q).gives⟩
theorem shiftLost_lifted (os : Os) (started : os.Started) (H : Type) (enc : TypeId × Value → H) :
  ReturnsInHanded {} Tryz.checked os 18 .any (fun w args => (Rows.shiftLostSpec.pre enc Tryz.prog Tryz.f18 Rows.shiftLostRow.domain false w args ∧ laidMetH Tryz.prog laidL5 w) ∧ sizedMet enc Tryz.prog Tryz.f18 (OpenSpec.ofChange Rows.shiftLostSpec) false w args)
   (Rows.shiftLostSpec.post enc Tryz.prog Tryz.f18 false true false false) := by
 refine returnsInHanded_of_change_and (C := Tryz.checked) (X := fun w _ => laidMetH Tryz.prog laidL5 w) (fun _ _ _ hh h => h.of_heap hh) own started (by kernel_rfl) Tryz.func18
  (ChangeSpec.witness_shaped (enc := enc) (C := Tryz.checked) (os := os) (X := fun w _ => laidMetH Tryz.prog laidL5 w) false (World.laidAll Tryz.prog os laidL5) #[.agg #[.int .i64 0, .slice none 0 0, .slice none 0 0, .slice none 0 0, .slice none 0 0], .slice none 0 0, .agg #[.slice none 0 0, .int .i64 0, .int .i64 0, .int .i64 0]] 8 (World.laidAll_os _ _ _)
   (World.shaped_of_ZipB (by kernel_rfl) (by kernel_rfl)) (by kernel_rfl) (by kernel_rfl) (by kernel_rfl)
   (by rw [MakeChecks.laidMetH_plain _ _ _ (by kernel_rfl)]; exact laidMet_laidAll _ (by kernel_rfl) (by kernel_rfl))) ?_
 intro W base args ds gs before hval hW _ _ hL _
 exact lawHolds Tryz.func18 (by kernel_rfl) rfl (fun ds hd => by
  match ds, hd with
  | [d1, d2, d3], _ => rfl) (by rw [Tryz.params18]; intro t ht; simp at ht; rcases ht with rfl | rfl | rfl <;> kernel_rfl) (by rw [Tryz.params18]; intro t ht; simp at ht; rcases ht with rfl | rfl | rfl <;> exact ⟨by kernel_rfl, of_decide_eq_true (by kernel_rfl)⟩)
  (fun hT avs h => law18 hT avs h) W base args ds gs before hval hW (laidSub hL)
theorem in18 : (Rows.shiftLostRow.inPlace == Tryz.prog.inPlace 18) = true := by kernel_rfl
theorem unf18 : (Rows.shiftLostRow.unfollowed == Tryz.prog.unfollowed 18) = true := by kernel_rfl
theorem rec18 : (Rows.shiftLostRow.recurses == Tryz.prog.recurses 18) = true := by kernel_rfl
theorem nam18 : (Rows.shiftLostRow.named == Tryz.prog.varsNamed 18) = true := by kernel_rfl
theorem closed18 : joinedFacts Tryz.prog 18 Tryz.f18 Rows.shiftLostSpec Rows.shiftLostRow = true := by
 unfold joinedFacts
 rw [enter_ok, lifts_ok, make_ok]
 repeat' (with_reducible apply and_mk)
 all_goals (first | with_reducible exact laidOut | with_reducible exact rowed | with_reducible exact in18 | with_reducible exact unf18 | with_reducible exact rec18 | with_reducible exact nam18 | kernel_rfl)
theorem shiftLost_holds : Rows.ShiftLostSaid :=
 OpenClaim.holds_of_wide 18 Tryz.f18 rfl rfl rfl rfl rfl rfl rfl ⟨rfl, rfl, rfl, rfl, rfl⟩ rfl rfl rfl rfl rfl (by kernel_rfl) Tryz.func18 closed18
  (of_decide_eq_true (by kernel_rfl)) (by unfold Func.isWrapper; rw [if_neg (of_decide_eq_false (by kernel_rfl))]; exact ⟨rfl, rfl⟩)
  (fun os started H enc _ => shiftLost_lifted os started H enc)
theorem goes18 : false = Rows.shiftLostRow.goesBy Tryz.prog := by kernel_rfl
theorem shiftLost_card : Rows.ShiftLostCardSaid :=
 Claim7.holds_tied_plain_at .later [] [.data, .data, .data, .data, .pinned] true (true, "3790dbe7c969a99d29e58b9f33dbbd4b1fc1d34e5e69bc51fcfea29329c8fa80") true shiftLost_holds (fun _ h => by cases h) (by kernel_rfl) (fun _ h => by cases h) shiftLost_row_tie rfl ⟨rfl, rfl⟩ main_ok rfl
  (fun f fn hf hfn => by
   obtain rfl : f = 18 := Option.some.inj ((show Tryz.prog.funcNamed "nacre/nacrelaw05.ShiftLost" = some 18 by kernel_rfl).symm.trans hf) |>.symm
   obtain rfl : fn = Tryz.f18 := (Option.some.inj (Tryz.func18.symm.trans hfn)).symm
   exact ⟨looks_ok, fun j t ht => by
    rw [Tryz.params18] at ht
    have hm : t ∈ [27, 36, 109] := by simpa using Array.mem_of_getElem? ht
    have hall : ([27, 36, 109].all fun u => !Tryz.prog.wantsStandIn u) = true := by kernel_rfl
    exact (show Tryz.prog.wantsStandIn t = false by simpa using List.all_eq_true.1 hall t hm)⟩)
  goes18
end Go.Proofs.YtkpbdjpekjdhcaaGreatDoor
