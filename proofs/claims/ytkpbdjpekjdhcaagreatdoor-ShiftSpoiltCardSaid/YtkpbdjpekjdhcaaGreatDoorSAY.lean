/-
  The sheets of houses. No condition but the row's own: the tables of Go's library that it lists hold what the program's text lays there.
-/
import Derived.Test.YtkpbdjpekjdhcaaGreatDoorSAS
import Derived.Test.YtkpbdjpekjdhcaaGreatDoorSXVG
import Derived.Test.YtkpbdjpekjdhcaaGreatDoorSAV
import Derived.Test.YtkpbdjpekjdhcaaGreatDoorCards
set_option linter.unusedSimpArgs false
set_option linter.unusedVariables false
set_option linter.unusedSectionVars false
set_option maxRecDepth 100000
namespace Go.Proofs.YtkpbdjpekjdhcaaGreatDoor
open Go Go.AM Go.ChangeShapes Go.WideShapes Go.ChangeAt Go.RowKit
theorem law9 [Keep] (hT : TabK Tryz.prog) (avs : List AV) (h : ArgsOk Tryz.prog Tryz.f9.params.toList avs) : ∃ X, X.P = Tryz.prog ∧ Sound X ∧ ∃ h', Cl X 9 avs emptyHp (.ret (.bool true) h' none) := by
  rw [Tryz.params9] at h
  rcases h with _ | ⟨k1, _ | ⟨k2, _ | ⟨k3, _ | _⟩⟩⟩
  obtain ⟨ra, fa, oa, ha, m, rfl, v1, v2, v3, v4⟩ := Sh.house k1
  obtain ⟨n, rfl⟩ := Sh.i64 k2
  obtain ⟨d, rfl⟩ := Sh.i64 k3
  rw [ag27, ag3]
  exact ⟨dXW c9, rfl, c9_sound hT, (T9 ra fa oa ha m n d v1 v2 v3 v4).gives⟩
theorem shiftSpoilt_lifted (os : Os) (started : os.Started) (H : Type) (enc : TypeId × Value → H) :
    ReturnsInHanded {} Tryz.checked os 9 .any (fun w args => (Rows.shiftSpoiltSpec.pre enc Tryz.prog Tryz.f9 Rows.shiftSpoiltRow.domain false w args ∧ laidMetH Tryz.prog laidL5 w) ∧ sizedMet enc Tryz.prog Tryz.f9 (OpenSpec.ofChange Rows.shiftSpoiltSpec) false w args)
      (Rows.shiftSpoiltSpec.post enc Tryz.prog Tryz.f9 false true false false) := by
  refine returnsInHanded_of_change_and (C := Tryz.checked) (X := fun w _ => laidMetH Tryz.prog laidL5 w) (fun _ _ _ hh h => h.of_heap hh) own started (by kernel_rfl) Tryz.func9
    (ChangeSpec.witness_shaped (enc := enc) (C := Tryz.checked) (os := os) (X := fun w _ => laidMetH Tryz.prog laidL5 w) false (World.laidAll Tryz.prog os laidL5) #[.agg #[.int .i64 0, .slice none 0 0, .slice none 0 0, .slice none 0 0, .slice none 0 0], .int .i64 0, .int .i64 0] 8 (World.laidAll_os _ _ _)
      (World.shaped_of_ZipB (by kernel_rfl) (by kernel_rfl)) (by kernel_rfl) (by kernel_rfl) (by kernel_rfl)
      (by rw [MakeChecks.laidMetH_plain _ _ _ (by kernel_rfl)]; exact laidMet_laidAll _ (by kernel_rfl) (by kernel_rfl))) ?_
  intro W base args ds gs before hval hW _ _ hL _
  exact lawHolds Tryz.func9 (by kernel_rfl) rfl (fun ds hd => by
    match ds, hd with
    | [d1, d2, d3], _ => rfl) (by rw [Tryz.params9]; intro t ht; simp at ht; rcases ht with rfl | rfl | rfl <;> kernel_rfl) (by rw [Tryz.params9]; intro t ht; simp at ht; rcases ht with rfl | rfl | rfl <;> exact ⟨by kernel_rfl, of_decide_eq_true (by kernel_rfl)⟩)
    (fun hT avs h => law9 hT avs h) W base args ds gs before hval hW (laidSub hL)
theorem in9 : (Rows.shiftSpoiltRow.inPlace == Tryz.prog.inPlace 9) = true := by kernel_rfl
theorem unf9 : (Rows.shiftSpoiltRow.unfollowed == Tryz.prog.unfollowed 9) = true := by kernel_rfl
theorem rec9 : (Rows.shiftSpoiltRow.recurses == Tryz.prog.recurses 9) = true := by kernel_rfl
theorem nam9 : (Rows.shiftSpoiltRow.named == Tryz.prog.varsNamed 9) = true := by kernel_rfl
theorem closed9 : joinedFacts Tryz.prog 9 Tryz.f9 Rows.shiftSpoiltSpec Rows.shiftSpoiltRow = true := by
  unfold joinedFacts
  rw [enter_ok, lifts_ok, make_ok]
  repeat' (with_reducible apply and_mk)
  all_goals (first | with_reducible exact laidOut | with_reducible exact rowed | with_reducible exact in9 | with_reducible exact unf9 | with_reducible exact rec9 | with_reducible exact nam9 | kernel_rfl)
theorem shiftSpoilt_holds : Rows.ShiftSpoiltSaid :=
  OpenClaim.holds_of_wide 9 Tryz.f9 rfl rfl rfl rfl rfl rfl rfl ⟨rfl, rfl, rfl, rfl, rfl⟩ rfl rfl rfl rfl rfl (by kernel_rfl) Tryz.func9 closed9
    (of_decide_eq_true (by kernel_rfl)) (by unfold Func.isWrapper; rw [if_neg (of_decide_eq_false (by kernel_rfl))]; exact ⟨rfl, rfl⟩)
    (fun os started H enc _ => shiftSpoilt_lifted os started H enc)
theorem goes9 : false = Rows.shiftSpoiltRow.goesBy Tryz.prog := by kernel_rfl
theorem shiftSpoilt_card : Rows.ShiftSpoiltCardSaid :=
  Claim7.holds_tied_plain_at .later [] [.data, .data, .data, .data, .pinned] true (true, "3790dbe7c969a99d29e58b9f33dbbd4b1fc1d34e5e69bc51fcfea29329c8fa80") true shiftSpoilt_holds (fun _ h => by cases h) (by kernel_rfl) (fun _ h => by cases h) shiftSpoilt_row_tie rfl ⟨rfl, rfl⟩ main_ok rfl
    (fun f fn hf hfn => by
      obtain rfl : f = 9 := Option.some.inj ((show Tryz.prog.funcNamed "nacre/nacrelaw05.ShiftSpoilt" = some 9 by kernel_rfl).symm.trans hf) |>.symm
      obtain rfl : fn = Tryz.f9 := (Option.some.inj (Tryz.func9.symm.trans hfn)).symm
      exact ⟨looks_ok, fun j t ht => by
        rw [Tryz.params9] at ht
        have hm : t ∈ [27, 3, 3] := by simpa using Array.mem_of_getElem? ht
        have hall : ([27, 3, 3].all fun u => !Tryz.prog.wantsStandIn u) = true := by kernel_rfl
        exact (show Tryz.prog.wantsStandIn t = false by simpa using List.all_eq_true.1 hall t hm)⟩)
    goes9
end Go.Proofs.YtkpbdjpekjdhcaaGreatDoor
