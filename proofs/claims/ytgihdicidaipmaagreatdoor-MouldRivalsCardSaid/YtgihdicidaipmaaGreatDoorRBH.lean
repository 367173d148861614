/-
  MouldRivals returns true for every input, and leaves its input as it was. No condition but the row's own: the tables of Go's library that it lists hold what the program's text lays there.
-/
import Derived.Test.YtgihdicidaipmaaGreatDoorRAV
import Derived.Test.YtgihdicidaipmaaGreatDoorRXGVG
import Derived.Test.YtgihdicidaipmaaGreatDoorRBG
import Derived.Test.YtgihdicidaipmaaGreatDoorCards
set_option linter.unusedSimpArgs false
set_option linter.unusedVariables false
set_option linter.unusedSectionVars false
set_option maxRecDepth 100000
namespace Go.Proofs.YtgihdicidaipmaaGreatDoor
open Go Go.AM Go.ChangeShapes Go.WideShapes Go.ChangeAt Go.RowKit
theorem law9 [Keep] (hT : TabK Tryz.prog) (avs : List AV) (h : ArgsOk Tryz.prog Tryz.f9.params.toList avs) : ∃ X, X.P = Tryz.prog /\ Sound X /\ ∃ h', Cl X 9 avs emptyHp (.ret (.bool true) h' none) := by
 rw [Tryz.params9] at h
 rcases h with _ | ⟨k1, _ | ⟨k2, _ | _⟩⟩
 obtain ⟨sa, b, rfl, v⟩ := Sh.book k1
 obtain ⟨ga, l, rfl, q⟩ := Sh.ints k2
 rw [ag24, ag36]
 exact ⟨dX c9, rfl, c9_sound, (T9 sa ga b l v q).gives⟩
theorem mouldRivals_lifted (os : Os) (started : os.Started) (H : Type) (enc : TypeId × Value -> H) :
  ReturnsInHanded {} Tryz.checked os 9 .any (fun w args => (Rows.mouldRivalsSpec.pre enc Tryz.prog Tryz.f9 Rows.mouldRivalsRow.domain false w args /\ laidMetH Tryz.prog laidL5 w) /\ sizedMet enc Tryz.prog Tryz.f9 (OpenSpec.ofChange Rows.mouldRivalsSpec) false w args)
   (Rows.mouldRivalsSpec.post enc Tryz.prog Tryz.f9 false true false false) := by
 refine returnsInHanded_of_change_and (C := Tryz.checked) (X := fun w _ => laidMetH Tryz.prog laidL5 w) (fun _ _ _ hh h => h.of_heap hh) own started (by kernel_rfl) Tryz.func9
  (ChangeSpec.witness_shaped (enc := enc) (C := Tryz.checked) (os := os) (X := fun w _ => laidMetH Tryz.prog laidL5 w) false (World.laidAll Tryz.prog os laidL5) #[.agg #[.int .i64 0, .int .i64 0, .slice none 0 0], .slice none 0 0] 8 (World.laidAll_os _ _ _)
   (World.shaped_of_ZipB (by kernel_rfl) (by kernel_rfl)) (by kernel_rfl) (by kernel_rfl) (by kernel_rfl)
   (by rw [MakeChecks.laidMetH_plain _ _ _ (by kernel_rfl)]; exact laidMet_laidAll _ (by kernel_rfl) (by kernel_rfl))) ?_
 intro W base args ds gs before hval hW _ _ hL _
 exact lawHolds Tryz.func9 (by kernel_rfl) rfl (fun ds hd => by
  match ds, hd with
  | [d1, d2], _ => rfl) (by rw [Tryz.params9]; intro t ht; simp at ht; rcases ht with rfl | rfl <;> kernel_rfl) (by rw [Tryz.params9]; intro t ht; simp at ht; rcases ht with rfl | rfl <;> exact ⟨by kernel_rfl, of_decide_eq_true (by kernel_rfl)⟩)
  (fun hT avs h => law9 hT avs h) W base args ds gs before hval hW (laidSub hL)
theorem in9 : (Rows.mouldRivalsRow.inPlace == Tryz.prog.inPlace 9) = true := by kernel_rfl
theorem unf9 : (Rows.mouldRivalsRow.unfollowed == Tryz.prog.unfollowed 9) = true := by kernel_rfl
theorem rec9 : (Rows.mouldRivalsRow.recurses == Tryz.prog.recurses 9) = true := by kernel_rfl
theorem nam9 : (Rows.mouldRivalsRow.named == Tryz.prog.varsNamed 9) = true := by kernel_rfl
theorem closed9 : joinedFacts Tryz.prog 9 Tryz.f9 Rows.mouldRivalsSpec Rows.mouldRivalsRow = true := by
 unfold joinedFacts
 rw [enter_ok, lifts_ok, make_ok]
 repeat' (with_reducible apply and_mk)
 all_goals (first | with_reducible exact laidOut | with_reducible exact rowed | with_reducible exact in9 | with_reducible exact unf9 | with_reducible exact rec9 | with_reducible exact nam9 | kernel_rfl)
theorem mouldRivals_holds : Rows.MouldRivalsSaid :=
 OpenClaim.holds_of_wide 9 Tryz.f9 rfl rfl rfl rfl rfl rfl rfl ⟨rfl, rfl, rfl, rfl, rfl⟩ rfl rfl rfl rfl rfl (by kernel_rfl) Tryz.func9 closed9
  (of_decide_eq_true (by kernel_rfl)) (by unfold Func.isWrapper; rw [if_neg (of_decide_eq_false (by kernel_rfl))]; exact ⟨rfl, rfl⟩)
  (fun os started H enc _ => mouldRivals_lifted os started H enc)
theorem goes9 : false = Rows.mouldRivalsRow.goesBy Tryz.prog := by kernel_rfl
theorem mouldRivals_card : Rows.MouldRivalsCardSaid :=
 Claim7.holds_tied_plain_at .later [] [.data, .data, .data, .data, .pinned] true (true, "9f6af659d51eecd5ef0b7864e638dd6f75901458c8e0d6a7a601de42b21bca61") true mouldRivals_holds (fun _ h => by cases h) (by kernel_rfl) (fun _ h => by cases h) mouldRivals_row_tie rfl ⟨rfl, rfl⟩ main_ok rfl
  (fun f fn hf hfn => by
   obtain rfl : f = 9 := Option.some.inj ((show Tryz.prog.funcNamed "nacre/nacrelaw07.MouldRivals" = some 9 by kernel_rfl).symm.trans hf) |>.symm
   obtain rfl : fn = Tryz.f9 := (Option.some.inj (Tryz.func9.symm.trans hfn)).symm
   exact ⟨looks_ok, fun j t ht => by
    rw [Tryz.params9] at ht
    have hm : t ∈ [24, 36] := by simpa using Array.mem_of_getElem? ht
    have hall : ([24, 36].all fun u => !Tryz.prog.wantsStandIn u) = true := by kernel_rfl
    exact (show Tryz.prog.wantsStandIn t = false by simpa using List.all_eq_true.1 hall t hm)⟩)
  goes9
end Go.Proofs.YtgihdicidaipmaaGreatDoor
