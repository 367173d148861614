/-
  A part of the proof: contracts of functions.
-/
import Derived.Test.YtkpbdjpekjdhcaaGreatDoorRAV
import Derived.Test.YtkpbdjpekjdhcaaGreatDoorRXVG
import Derived.Test.YtkpbdjpekjdhcaaGreatDoorRAW
import Derived.Test.YtkpbdjpekjdhcaaGreatDoorRBA
import Derived.Test.YtkpbdjpekjdhcaaGreatDoorCards
set_option linter.unusedSimpArgs false
set_option linter.unusedVariables false
set_option linter.unusedSectionVars false
set_option maxRecDepth 100000
namespace Go.Proofs.YtkpbdjpekjdhcaaGreatDoor
open Go Go.AM Go.ChangeShapes Go.WideShapes Go.ChangeAt Go.RowKit
theorem law6 [Keep] (hT : TabK Tryz.prog) (avs : List AV) (h : ArgsOk Tryz.prog Tryz.f6.params.toList avs) : ∃ X, X.P = Tryz.prog ∧ Sound X ∧ ∃ h', Cl X 6 avs emptyHp (.ret (.bool true) h' none) := by
  rw [Tryz.params6] at h
  rcases h with _ | ⟨k1, _ | ⟨k2, _ | _⟩⟩
  obtain ⟨ra, fa, oa, ha, m, rfl, v⟩ := Sh.houseI k1
  obtain ⟨x, rfl⟩ := Sh.fk k2
  rw [ag27, ag52]
  exact ⟨dX c6, rfl, c6_sound hT, (T6 ra fa oa ha m x v).gives⟩
theorem shiftMades_lifted (os : Os) (started : os.Started) (H : Type) (enc : TypeId × Value → H) :
    ReturnsInHanded {} Tryz.checked os 6 .any (fun w args => (Rows.shiftMadesSpec.pre enc Tryz.prog Tryz.f6 Rows.shiftMadesRow.domain false w args ∧ laidMetH Tryz.prog laidL5 w) ∧ sizedMet enc Tryz.prog Tryz.f6 (OpenSpec.ofChange Rows.shiftMadesSpec) false w args)
      (Rows.shiftMadesSpec.post enc Tryz.prog Tryz.f6 false true false false) := by
  refine returnsInHanded_of_change_and (C := Tryz.checked) (X := fun w _ => laidMetH Tryz.prog laidL5 w) (fun _ _ _ hh h => h.of_heap hh) own started (by kernel_rfl) Tryz.func6
    (ChangeSpec.witness_shaped (enc := enc) (C := Tryz.checked) (os := os) (X := fun w _ => laidMetH Tryz.prog laidL5 w) false (World.laidAll Tryz.prog os laidL5) #[.agg #[.int .i64 0, .slice none 0 0, .slice none 0 0, .slice none 0 0, .slice none 0 0], .agg #[.int .i64 0, .int .i64 0, .int .i64 0]] 8 (World.laidAll_os _ _ _)
      (World.shaped_of_ZipB (by kernel_rfl) (by kernel_rfl)) (by kernel_rfl) (by kernel_rfl) (by kernel_rfl)
      (by rw [MakeChecks.laidMetH_plain _ _ _ (by kernel_rfl)]; exact laidMet_laidAll _ (by kernel_rfl) (by kernel_rfl))) ?_
  intro W base args ds gs before hval hW _ _ hL _
  exact lawHolds Tryz.func6 (by kernel_rfl) rfl (fun ds hd => by
    match ds, hd with
    | [d1, d2], _ => rfl) (by rw [Tryz.params6]; intro t ht; simp at ht; rcases ht with rfl | rfl <;> kernel_rfl) (by rw [Tryz.params6]; intro t ht; simp at ht; rcases ht with rfl | rfl <;> exact ⟨by kernel_rfl, of_decide_eq_true (by kernel_rfl)⟩)
    (fun hT avs h => law6 hT avs h) W base args ds gs before hval hW (laidSub hL)
theorem in6 : (Rows.shiftMadesRow.inPlace == Tryz.prog.inPlace 6) = true := by kernel_rfl
theorem unf6 : (Rows.shiftMadesRow.unfollowed == Tryz.prog.unfollowed 6) = true := by kernel_rfl
theorem rec6 : (Rows.shiftMadesRow.recurses == Tryz.prog.recurses 6) = true := by kernel_rfl
theorem nam6 : (Rows.shiftMadesRow.named == Tryz.prog.varsNamed 6) = true := by kernel_rfl
theorem closed6 : joinedFacts Tryz.prog 6 Tryz.f6 Rows.shiftMadesSpec Rows.shiftMadesRow = true := by
  unfold joinedFacts
  rw [enter_ok, lifts_ok, make_ok]
  repeat' (with_reducible apply and_mk)
  all_goals (first | with_reducible exact laidOut | with_reducible exact rowed | with_reducible exact in6 | with_reducible exact unf6 | with_reducible exact rec6 | with_reducible exact nam6 | kernel_rfl)
theorem shiftMades_holds : Rows.ShiftMadesSaid :=
  OpenClaim.holds_of_wide 6 Tryz.f6 rfl rfl rfl rfl rfl rfl rfl ⟨rfl, rfl, rfl, rfl, rfl⟩ rfl rfl rfl rfl rfl (by kernel_rfl) Tryz.func6 closed6
    (of_decide_eq_true (by kernel_rfl)) (by unfold Func.isWrapper; rw [if_neg (of_decide_eq_false (by kernel_rfl))]; exact ⟨rfl, rfl⟩)
    (fun os started H enc _ => shiftMades_lifted os started H enc)
theorem goes6 : false = Rows.shiftMadesRow.goesBy Tryz.prog := by kernel_rfl
theorem shiftMades_card : Rows.ShiftMadesCardSaid :=
  Claim7.holds_tied_plain_at .later [] [.data, .data, .data, .data, .pinned] true (true, "3790dbe7c969a99d29e58b9f33dbbd4b1fc1d34e5e69bc51fcfea29329c8fa80") true shiftMades_holds (fun _ h => by cases h) (by kernel_rfl) (fun _ h => by cases h) shiftMades_row_tie rfl ⟨rfl, rfl⟩ main_ok rfl
    (fun f fn hf hfn => by
      obtain rfl : f = 6 := Option.some.inj ((show Tryz.prog.funcNamed "nacre/nacrelaw05.ShiftMades" = some 6 by kernel_rfl).symm.trans hf) |>.symm
      obtain rfl : fn = Tryz.f6 := (Option.some.inj (Tryz.func6.symm.trans hfn)).symm
      exact ⟨looks_ok, fun j t ht => by
        rw [Tryz.params6] at ht
        have hm : t ∈ [27, 52] := by simpa using Array.mem_of_getElem? ht
        have hall : ([27, 52].all fun u => !Tryz.prog.wantsStandIn u) = true := by kernel_rfl
        exact (show Tryz.prog.wantsStandIn t = false by simpa using List.all_eq_true.1 hall t hm)⟩)
    goes6
end Go.Proofs.YtkpbdjpekjdhcaaGreatDoor
