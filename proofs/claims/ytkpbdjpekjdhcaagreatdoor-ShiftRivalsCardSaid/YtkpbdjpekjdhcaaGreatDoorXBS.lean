/-
  The best roster of a house: no other one that is kept has fewer hands, nor as many and comes before. No condition but the row's own: the tables of Go's library that it lists hold what the program's text lays there.
-/
import Derived.Test.YtkpbdjpekjdhcaaGreatDoorXAU
import Derived.Test.YtkpbdjpekjdhcaaGreatDoorXXVG
import Derived.Test.YtkpbdjpekjdhcaaGreatDoorXBQ
import Derived.Test.YtkpbdjpekjdhcaaGreatDoorXBR
import Derived.Test.YtkpbdjpekjdhcaaGreatDoorCards
set_option linter.unusedSimpArgs false
set_option linter.unusedVariables false
set_option linter.unusedSectionVars false
set_option maxRecDepth 100000
namespace Go.Proofs.YtkpbdjpekjdhcaaGreatDoor
open Go Go.AM Go.ChangeShapes Go.WideShapes Go.ChangeAt Go.RowKit
theorem law12 [Keep] (hT : TabK Tryz.prog) (avs : List AV) (h : ArgsOk Tryz.prog Tryz.f12.params.toList avs) : ∃ X, X.P = Tryz.prog /\ Sound X /\ ∃ h', Cl X 12 avs emptyHp (.ret (.bool true) h' none) := by
 rw [Tryz.params12] at h
 rcases h with _ | ⟨k1, _ | ⟨k2, _ | _⟩⟩
 obtain ⟨ra, fa, oa, ha, m, rfl, v⟩ := Sh.houseI k1
 obtain ⟨dv, g, rfl, q⟩ := Sh.lists k2
 rw [ag27, ag36]
 exact ⟨dX c12, rfl, c12_sound hT, (T12 ra fa oa ha dv m g v q).gives⟩
theorem shiftRivals_lifted (os : Os) (started : os.Started) (H : Type) (enc : TypeId × Value -> H) :
  ReturnsInHanded {} Tryz.checked os 12 .any (fun w args => (Rows.shiftRivalsSpec.pre enc Tryz.prog Tryz.f12 Rows.shiftRivalsRow.domain false w args /\ laidMetH Tryz.prog laidL5 w) /\ sizedMet enc Tryz.prog Tryz.f12 (OpenSpec.ofChange Rows.shiftRivalsSpec) false w args)
   (Rows.shiftRivalsSpec.post enc Tryz.prog Tryz.f12 false true false false) := by
 refine returnsInHanded_of_change_and (C := Tryz.checked) (X := fun w _ => laidMetH Tryz.prog laidL5 w) (fun _ _ _ hh h => h.of_heap hh) own started (by kernel_rfl) Tryz.func12
  (ChangeSpec.witness_shaped (enc := enc) (C := Tryz.checked) (os := os) (X := fun w _ => laidMetH Tryz.prog laidL5 w) false (World.laidAll Tryz.prog os laidL5) #[.agg #[.int .i64 0, .slice none 0 0, .slice none 0 0, .slice none 0 0, .slice none 0 0], .slice none 0 0] 8 (World.laidAll_os _ _ _)
   (World.shaped_of_ZipB (by kernel_rfl) (by kernel_rfl)) (by kernel_rfl) (by kernel_rfl) (by kernel_rfl)
   (by rw [MakeChecks.laidMetH_plain _ _ _ (by kernel_rfl)]; exact laidMet_laidAll _ (by kernel_rfl) (by kernel_rfl))) ?_
 intro W base args ds gs before hval hW _ _ hL _
 exact lawHolds Tryz.func12 (by kernel_rfl) rfl (fun ds hd => by
  match ds, hd with
  | [d1, d2], _ => rfl) (by rw [Tryz.params12]; intro t ht; simp at ht; rcases ht with rfl | rfl <;> kernel_rfl) (by rw [Tryz.params12]; intro t ht; simp at ht; rcases ht with rfl | rfl <;> exact ⟨by kernel_rfl, of_decide_eq_true (by kernel_rfl)⟩)
  (fun hT avs h => law12 hT avs h) W base args ds gs before hval hW (laidSub hL)
theorem in12 : (Rows.shiftRivalsRow.inPlace == Tryz.prog.inPlace 12) = true := by kernel_rfl
theorem unf12 : (Rows.shiftRivalsRow.unfollowed == Tryz.prog.unfollowed 12) = true := by kernel_rfl
theorem rec12 : (Rows.shiftRivalsRow.recurses == Tryz.prog.recurses 12) = true := by kernel_rfl
theorem nam12 : (Rows.shiftRivalsRow.named == Tryz.prog.varsNamed 12) = true := by kernel_rfl
theorem closed12 : joinedFacts Tryz.prog 12 Tryz.f12 Rows.shiftRivalsSpec Rows.shiftRivalsRow = true := by
 unfold joinedFacts
 rw [enter_ok, lifts_ok, make_ok]
 repeat' (with_reducible apply and_mk)
 all_goals (first | with_reducible exact laidOut | with_reducible exact rowed | with_reducible exact in12 | with_reducible exact unf12 | with_reducible exact rec12 | with_reducible exact nam12 | kernel_rfl)
theorem shiftRivals_holds : Rows.ShiftRivalsSaid :=
 OpenClaim.holds_of_wide 12 Tryz.f12 rfl rfl rfl rfl rfl rfl rfl ⟨rfl, rfl, rfl, rfl, rfl⟩ rfl rfl rfl rfl rfl (by kernel_rfl) Tryz.func12 closed12
  (of_decide_eq_true (by kernel_rfl)) (by unfold Func.isWrapper; rw [if_neg (of_decide_eq_false (by kernel_rfl))]; exact ⟨rfl, rfl⟩)
  (fun os started H enc _ => shiftRivals_lifted os started H enc)
theorem goes12 : false = Rows.shiftRivalsRow.goesBy Tryz.prog := by kernel_rfl
theorem shiftRivals_card : Rows.ShiftRivalsCardSaid :=
 Claim7.holds_tied_plain_at .later [] [.data, .data, .data, .data, .pinned] true (true, "3790dbe7c969a99d29e58b9f33dbbd4b1fc1d34e5e69bc51fcfea29329c8fa80") true shiftRivals_holds (fun _ h => by cases h) (by kernel_rfl) (fun _ h => by cases h) shiftRivals_row_tie rfl ⟨rfl, rfl⟩ main_ok rfl
  (fun f fn hf hfn => by
   obtain rfl : f = 12 := Option.some.inj ((show Tryz.prog.funcNamed "nacre/nacrelaw05.ShiftRivals" = some 12 by kernel_rfl).symm.trans hf) |>.symm
   obtain rfl : fn = Tryz.f12 := (Option.some.inj (Tryz.func12.symm.trans hfn)).symm
   exact ⟨looks_ok, fun j t ht => by
    rw [Tryz.params12] at ht
    have hm : t ∈ [27, 36] := by simpa using Array.mem_of_getElem? ht
    have hall : ([27, 36].all fun u => !Tryz.prog.wantsStandIn u) = true := by kernel_rfl
    exact (show Tryz.prog.wantsStandIn t = false by simpa using List.all_eq_true.1 hall t hm)⟩)
  goes12
end Go.Proofs.YtkpbdjpekjdhcaaGreatDoor
