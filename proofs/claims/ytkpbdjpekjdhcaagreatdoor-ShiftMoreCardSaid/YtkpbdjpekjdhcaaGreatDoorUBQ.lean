/-
  ShiftMore: if a fan draws more, there is never more dust in a room, and nothing that was safe becomes unsafe; and a greater limit does not make a roster that was kept not kept. No condition but the row's own: the tables of Go's library that it lists hold what the program's text lays there.
-/
import Derived.Test.YtkpbdjpekjdhcaaGreatDoorUAV
import Derived.Test.YtkpbdjpekjdhcaaGreatDoorUXVG
import Derived.Test.YtkpbdjpekjdhcaaGreatDoorUBO
import Derived.Test.YtkpbdjpekjdhcaaGreatDoorUBP
import Derived.Test.YtkpbdjpekjdhcaaGreatDoorCards
set_option linter.unusedSimpArgs false
set_option linter.unusedVariables false
set_option linter.unusedSectionVars false
set_option maxRecDepth 100000
namespace Go.Proofs.YtkpbdjpekjdhcaaGreatDoor
open Go Go.AM Go.ChangeShapes Go.WideShapes Go.ChangeAt Go.RowKit
theorem law15 [Keep] (hT : TabK Tryz.prog) (avs : List AV) (h : ArgsOk Tryz.prog Tryz.f15.params.toList avs) : ∃ X, X.P = Tryz.prog ∧ Sound X ∧ ∃ h', Cl X 15 avs emptyHp (.ret (.bool true) h' none) := by
 rw [Tryz.params15] at h
 rcases h with _ | ⟨k1, _ | ⟨k2, _ | ⟨k3, _ | ⟨k4, _ | ⟨k5, _ | ⟨k6, _ | ⟨k7, _ | _⟩⟩⟩⟩⟩⟩⟩
 obtain ⟨ra, fa, oa, ha, m, rfl, v⟩ := Sh.houseI k1
 obtain ⟨fn, rfl⟩ := Sh.i64 k2
 obtain ⟨mo, rfl⟩ := Sh.i64 k3
 obtain ⟨pa, p, rfl, qp⟩ := Sh.ints k4
 obtain ⟨dv, g, rfl, q⟩ := Sh.lists k5
 obtain ⟨hd, rfl⟩ := Sh.i64 k6
 obtain ⟨li, rfl⟩ := Sh.i64 k7
 rw [ag27, ag3, ag24, ag36]
 exact ⟨dX c15, rfl, c15_sound hT, (T15 ra fa oa ha pa dv m fn mo hd li p g v qp q).gives⟩
theorem shiftMore_lifted (os : Os) (started : os.Started) (H : Type) (enc : TypeId × Value → H) :
  ReturnsInHanded {} Tryz.checked os 15 .any (fun w args => (Rows.shiftMoreSpec.pre enc Tryz.prog Tryz.f15 Rows.shiftMoreRow.domain false w args ∧ laidMetH Tryz.prog laidL5 w) ∧ sizedMet enc Tryz.prog Tryz.f15 (OpenSpec.ofChange Rows.shiftMoreSpec) false w args)
   (Rows.shiftMoreSpec.post enc Tryz.prog Tryz.f15 false true false false) := by
 refine returnsInHanded_of_change_and (C := Tryz.checked) (X := fun w _ => laidMetH Tryz.prog laidL5 w) (fun _ _ _ hh h => h.of_heap hh) own started (by kernel_rfl) Tryz.func15
  (ChangeSpec.witness_shaped (enc := enc) (C := Tryz.checked) (os := os) (X := fun w _ => laidMetH Tryz.prog laidL5 w) false (World.laidAll Tryz.prog os laidL5) #[.agg #[.int .i64 0, .slice none 0 0, .slice none 0 0, .slice none 0 0, .slice none 0 0], .int .i64 0, .int .i64 0, .slice none 0 0, .slice none 0 0, .int .i64 0, .int .i64 0] 8 (World.laidAll_os _ _ _)
   (World.shaped_of_ZipB (by kernel_rfl) (by kernel_rfl)) (by kernel_rfl) (by kernel_rfl) (by kernel_rfl)
   (by rw [MakeChecks.laidMetH_plain _ _ _ (by kernel_rfl)]; exact laidMet_laidAll _ (by kernel_rfl) (by kernel_rfl))) ?_
 intro W base args ds gs before hval hW _ _ hL _
 exact lawHolds Tryz.func15 (by kernel_rfl) rfl (fun ds hd => by
  match ds, hd with
  | [d1, d2, d3, d4, d5, d6, d7], _ => rfl) (by rw [Tryz.params15]; intro t ht; simp at ht; rcases ht with rfl | rfl | rfl | rfl | rfl | rfl | rfl <;> kernel_rfl) (by rw [Tryz.params15]; intro t ht; simp at ht; rcases ht with rfl | rfl | rfl | rfl | rfl | rfl | rfl <;> exact ⟨by kernel_rfl, of_decide_eq_true (by kernel_rfl)⟩)
  (fun hT avs h => law15 hT avs h) W base args ds gs before hval hW (laidSub hL)
theorem in15 : (Rows.shiftMoreRow.inPlace == Tryz.prog.inPlace 15) = true := by kernel_rfl
theorem unf15 : (Rows.shiftMoreRow.unfollowed == Tryz.prog.unfollowed 15) = true := by kernel_rfl
theorem rec15 : (Rows.shiftMoreRow.recurses == Tryz.prog.recurses 15) = true := by kernel_rfl
theorem nam15 : (Rows.shiftMoreRow.named == Tryz.prog.varsNamed 15) = true := by kernel_rfl
theorem closed15 : joinedFacts Tryz.prog 15 Tryz.f15 Rows.shiftMoreSpec Rows.shiftMoreRow = true := by
 unfold joinedFacts
 rw [enter_ok, lifts_ok, make_ok]
 repeat' (with_reducible apply and_mk)
 all_goals (first | with_reducible exact laidOut | with_reducible exact rowed | with_reducible exact in15 | with_reducible exact unf15 | with_reducible exact rec15 | with_reducible exact nam15 | kernel_rfl)
theorem shiftMore_holds : Rows.ShiftMoreSaid :=
 OpenClaim.holds_of_wide 15 Tryz.f15 rfl rfl rfl rfl rfl rfl rfl ⟨rfl, rfl, rfl, rfl, rfl⟩ rfl rfl rfl rfl rfl (by kernel_rfl) Tryz.func15 closed15
  (of_decide_eq_true (by kernel_rfl)) (by unfold Func.isWrapper; rw [if_neg (of_decide_eq_false (by kernel_rfl))]; exact ⟨rfl, rfl⟩)
  (fun os started H enc _ => shiftMore_lifted os started H enc)
theorem goes15 : false = Rows.shiftMoreRow.goesBy Tryz.prog := by kernel_rfl
theorem shiftMore_card : Rows.ShiftMoreCardSaid :=
 Claim7.holds_tied_plain_at .later [] [.data, .data, .data, .data, .pinned] true (true, "3790dbe7c969a99d29e58b9f33dbbd4b1fc1d34e5e69bc51fcfea29329c8fa80") true shiftMore_holds (fun _ h => by cases h) (by kernel_rfl) (fun _ h => by cases h) shiftMore_row_tie rfl ⟨rfl, rfl⟩ main_ok rfl
  (fun f fn hf hfn => by
   obtain rfl : f = 15 := Option.some.inj ((show Tryz.prog.funcNamed "nacre/nacrelaw05.ShiftMore" = some 15 by kernel_rfl).symm.trans hf) |>.symm
   obtain rfl : fn = Tryz.f15 := (Option.some.inj (Tryz.func15.symm.trans hfn)).symm
   exact ⟨looks_ok, fun j t ht => by
    rw [Tryz.params15] at ht
    have hm : t ∈ [27, 3, 3, 24, 36, 3, 3] := by simpa using Array.mem_of_getElem? ht
    have hall : ([27, 3, 3, 24, 36, 3, 3].all fun u => !Tryz.prog.wantsStandIn u) = true := by kernel_rfl
    exact (show Tryz.prog.wantsStandIn t = false by simpa using List.all_eq_true.1 hall t hm)⟩)
  goes15
end Go.Proofs.YtkpbdjpekjdhcaaGreatDoor
