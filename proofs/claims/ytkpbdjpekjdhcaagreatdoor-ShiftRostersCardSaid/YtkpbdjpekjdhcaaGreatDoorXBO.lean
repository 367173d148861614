/-
  The rosters of a house: the program and the reference find the same one, with as few hands as can be. No condition but the row's own: the tables of Go's library that it lists hold what the program's text lays there.
-/
import Derived.Test.YtkpbdjpekjdhcaaGreatDoorXAU
import Derived.Test.YtkpbdjpekjdhcaaGreatDoorXXVG
import Derived.Test.YtkpbdjpekjdhcaaGreatDoorXBM
import Derived.Test.YtkpbdjpekjdhcaaGreatDoorXBN
import Derived.Test.YtkpbdjpekjdhcaaGreatDoorCards
set_option linter.unusedSimpArgs false
set_option linter.unusedVariables false
set_option linter.unusedSectionVars false
set_option maxRecDepth 100000
namespace Go.Proofs.YtkpbdjpekjdhcaaGreatDoor
open Go Go.AM Go.ChangeShapes Go.WideShapes Go.ChangeAt Go.RowKit
theorem law4 [Keep] (hT : TabK Tryz.prog) (avs : List AV) (h : ArgsOk Tryz.prog Tryz.f4.params.toList avs) : ∃ X, X.P = Tryz.prog /\ Sound X /\ ∃ h', Cl X 4 avs emptyHp (.ret (.bool true) h' none) := by
 rw [Tryz.params4] at h
 rcases h with _ | ⟨k1, _ | _⟩
 obtain ⟨ra, fa, oa, ha, m, rfl, v⟩ := Sh.houseI k1
 rw [ag27]
 exact ⟨dX c4, rfl, c4_sound hT, (T4 ra fa oa ha m v).gives⟩
theorem shiftRosters_lifted (os : Os) (started : os.Started) (H : Type) (enc : TypeId × Value -> H) :
  ReturnsInHanded {} Tryz.checked os 4 .any (fun w args => (Rows.shiftRostersSpec.pre enc Tryz.prog Tryz.f4 Rows.shiftRostersRow.domain false w args /\ laidMetH Tryz.prog laidL5 w) /\ sizedMet enc Tryz.prog Tryz.f4 (OpenSpec.ofChange Rows.shiftRostersSpec) false w args)
   (Rows.shiftRostersSpec.post enc Tryz.prog Tryz.f4 false true false false) := by
 refine returnsInHanded_of_change_and (C := Tryz.checked) (X := fun w _ => laidMetH Tryz.prog laidL5 w) (fun _ _ _ hh h => h.of_heap hh) own started (by kernel_rfl) Tryz.func4
  (ChangeSpec.witness_shaped (enc := enc) (C := Tryz.checked) (os := os) (X := fun w _ => laidMetH Tryz.prog laidL5 w) false (World.laidAll Tryz.prog os laidL5) #[.agg #[.int .i64 0, .slice none 0 0, .slice none 0 0, .slice none 0 0, .slice none 0 0]] 8 (World.laidAll_os _ _ _)
   (World.shaped_of_ZipB (by kernel_rfl) (by kernel_rfl)) (by kernel_rfl) (by kernel_rfl) (by kernel_rfl)
   (by rw [MakeChecks.laidMetH_plain _ _ _ (by kernel_rfl)]; exact laidMet_laidAll _ (by kernel_rfl) (by kernel_rfl))) ?_
 intro W base args ds gs before hval hW _ _ hL _
 exact lawHolds Tryz.func4 (by kernel_rfl) rfl (fun ds hd => by
  match ds, hd with
  | [d1], _ => rfl) (by rw [Tryz.params4]; intro t ht; simp at ht; rcases ht with rfl <;> kernel_rfl) (by rw [Tryz.params4]; intro t ht; simp at ht; rcases ht with rfl <;> exact ⟨by kernel_rfl, of_decide_eq_true (by kernel_rfl)⟩)
  (fun hT avs h => law4 hT avs h) W base args ds gs before hval hW (laidSub hL)
theorem in4 : (Rows.shiftRostersRow.inPlace == Tryz.prog.inPlace 4) = true := by kernel_rfl
theorem unf4 : (Rows.shiftRostersRow.unfollowed == Tryz.prog.unfollowed 4) = true := by kernel_rfl
theorem rec4 : (Rows.shiftRostersRow.recurses == Tryz.prog.recurses 4) = true := by kernel_rfl
theorem nam4 : (Rows.shiftRostersRow.named == Tryz.prog.varsNamed 4) = true := by kernel_rfl
theorem closed4 : joinedFacts Tryz.prog 4 Tryz.f4 Rows.shiftRostersSpec Rows.shiftRostersRow = true := by
 unfold joinedFacts
 rw [enter_ok, lifts_ok, make_ok]
 repeat' (with_reducible apply and_mk)
 all_goals (first | with_reducible exact laidOut | with_reducible exact rowed | with_reducible exact in4 | with_reducible exact unf4 | with_reducible exact rec4 | with_reducible exact nam4 | kernel_rfl)
theorem shiftRosters_holds : Rows.ShiftRostersSaid :=
 OpenClaim.holds_of_wide 4 Tryz.f4 rfl rfl rfl rfl rfl rfl rfl ⟨rfl, rfl, rfl, rfl, rfl⟩ rfl rfl rfl rfl rfl (by kernel_rfl) Tryz.func4 closed4
  (of_decide_eq_true (by kernel_rfl)) (by unfold Func.isWrapper; rw [if_neg (of_decide_eq_false (by kernel_rfl))]; exact ⟨rfl, rfl⟩)
  (fun os started H enc _ => shiftRosters_lifted os started H enc)
theorem goes4 : false = Rows.shiftRostersRow.goesBy Tryz.prog := by kernel_rfl
theorem shiftRosters_card : Rows.ShiftRostersCardSaid :=
 Claim7.holds_tied_plain_at .later [] [.data, .data, .data, .data, .pinned] true (true, "3790dbe7c969a99d29e58b9f33dbbd4b1fc1d34e5e69bc51fcfea29329c8fa80") true shiftRosters_holds (fun _ h => by cases h) (by kernel_rfl) (fun _ h => by cases h) shiftRosters_row_tie rfl ⟨rfl, rfl⟩ main_ok rfl
  (fun f fn hf hfn => by
   obtain rfl : f = 4 := Option.some.inj ((show Tryz.prog.funcNamed "nacre/nacrelaw05.ShiftRosters" = some 4 by kernel_rfl).symm.trans hf) |>.symm
   obtain rfl : fn = Tryz.f4 := (Option.some.inj (Tryz.func4.symm.trans hfn)).symm
   exact ⟨looks_ok, fun j t ht => by
    rw [Tryz.params4] at ht
    have hm : t ∈ [27] := by simpa using Array.mem_of_getElem? ht
    have hall : ([27].all fun u => !Tryz.prog.wantsStandIn u) = true := by kernel_rfl
    exact (show Tryz.prog.wantsStandIn t = false by simpa using List.all_eq_true.1 hall t hm)⟩)
  goes4
end Go.Proofs.YtkpbdjpekjdhcaaGreatDoor
