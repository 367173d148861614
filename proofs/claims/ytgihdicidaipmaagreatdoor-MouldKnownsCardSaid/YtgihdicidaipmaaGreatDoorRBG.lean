/-
  A part of the proof: contracts of functions.
-/
import Derived.Test.YtgihdicidaipmaaGreatDoorRAW
import Derived.Test.YtgihdicidaipmaaGreatDoorRAV
import Derived.Test.YtgihdicidaipmaaGreatDoorRBD
import Derived.Test.YtgihdicidaipmaaGreatDoorRBF
import Derived.Test.YtgihdicidaipmaaGreatDoorRAP
set_option linter.unusedSectionVars false
set_option linter.unusedVariables false
set_option linter.unusedSimpArgs false
set_option maxRecDepth 100000
set_option maxHeartbeats 16000000
namespace Go.AM
open Go Go.Proofs
variable [Keep]
attribute [local irreducible] W WO WO1 WD WQ WT thenQ blockQ endR isRet retK Cl ClR
section
attribute [local irreducible] natsE bestN nodeW okW leadF clearB goneB bfrB shortB
noncomputable def c9 : Itr
 | 21 => some (pureFn sp21)
 | 48 => some (pureFn sp48)
 | 49 => some (pureFn sp49)
 | 50 => some (newQ sp50)
 | 51 => some (pureFn sp51)
 | 52 => some (pureFn sp52)
 | _ => none
theorem K21 {X : Ctx} (hX : X.intr 21 = some (pureFn sp21)) (h : Heap) : Cl X 21 [] h (.ret (.bool true) h none) := Cl.intr hX rfl
end
section
def sp29 : List AV -> Option AV
 | [a, b] => (slV intC a).bind fun l => (slV intC b).map fun r => .bool (decide (l = r))
 | _ => none
section
variable {c : Itr}
end
end
section
open Go.Mo7 (insR insP)
theorem num_at {l : List Md} {m : Int} (h : numB l m = true) : ∃ (n : Nat) (d : Md), m = (n : Int) /\ l[n]? = some d := by
 unfold numB inB at h
 rw [Bool.and_eq_true, decide_eq_true_eq, decide_eq_true_eq] at h
 obtain ⟨d, hd⟩ := get_some (l := l) (k := m.toNat) (by omega)
 exact ⟨m.toNat, d, by omega, hd⟩
theorem book_md {b : Bk} (hbk : bookB b = true) (hmx : b.moulds.length <= maxL) {n : Nat} {d : Md} (hd : b.moulds[n]? = some d) : lnsOk d.loans /\ d.loans.length <= 3 := by
 unfold bookB at hbk
 simp only [Bool.and_eq_true] at hbk
 have hn := (List.getElem?_eq_some_iff.1 hd).1
 have h1 := (bookP_at hbk.2 hn hd).1
 have h2 := mdOk_parts (n := n) (by omega) h1
 exact ⟨h2.2.2.2.2.2.2.2.2, h2.2.2.2.2.2.2.1.2⟩
theorem mdAt_is {b : Bk} {n : Nat} {d : Md} (hd : b.moulds[n]? = some d) : mdAt b (n : Int) = d := by
 unfold mdAt
 rw [Int.toNat_natCast, List.getD_eq_getElem?_getD, hd]
 rfl
attribute [local irreducible] natsE houseF lisN bookB allDays shortB numB inB insR insP
noncomputable def c4 : Itr
 | 21 => some (pureFn sp21)
 | 48 => some (pureFn sp48)
 | 24 => some (pureFn sp24)
 | 25 => some (pureFn sp25)
 | 27 => some (newQ sp27)
 | 29 => some (flatFn sp29)
 | 81 => some (pureFn sp81)
 | 133 => some (pureFn sp133)
 | _ => none
end
section
attribute [local irreducible] bookB allDays shortB numB inB snK cnK sureI canI
noncomputable def c3 : Itr
 | 21 => some (pureFn sp21)
 | 48 => some (pureFn sp48)
 | 24 => some (pureFn sp24)
 | 25 => some (pureFn sp25)
 | 22 => some (pureFn sp22)
 | 81 => some (pureFn sp81)
 | _ => none
theorem c3_sound : Sound (dX c3) := dX_sound (fun f g h => by
 unfold c3 at h
 split at h
 ·cases h; exact F21
 ·cases h; exact F48
 ·cases h; exact F24
 ·cases h; exact F25
 ·cases h; exact F22
 ·cases h; exact F81
 ·cases h)
theorem T3 (sa : AV) (b : Bk) (m s : Int) (v : MdsI sa b.moulds) : ClR (dX c3) 3 [.agg [.int .i64 b.miss, .int .i64 b.ghost, sa], .int .i64 m, .int .i64 s] emptyHp (isRet (.bool true)) := by
 have os := v.out
 have k21 : ∀ h, Cl (dX c3) 21 [] h (.ret (.bool true) h none) := fun h => K21 rfl h
 have k20 := fun h => C20I (c := c3) rfl b sa v h
 have q0 : ((0 : Int) == 0) = true := rfl
 have q2 : ((2 : Int) == 2) = true := rfl
 have z0 : ((((0 : Nat) : Int)) == 0) = true := rfl
 have q7 : ((7 : Int) == 7) = true := rfl
 have q5 : ((5 : Int) == 5) = true := rfl
 have n0 : ((0 : Int) != 0) = false := rfl
 have n2 : ((2 : Int) != 0) = true := rfl
 have n7 : ((7 : Int) != 0) = true := rfl
 cases gs : shortB b with
 | false =>
  rw [gs] at k20
  clear v gs
  refine wK rfl Tryz.func3 rfl isRet_fail ?_
  repeat' (first | refine goS ?_ | refine uJ (k20 _) ?_ | refine uJ (k21 _) ?_ | (refine go2 ?_ ?_ <;> intro hh) | fail)
  all_goals (simp only [rV Tryz.func3, Tryz.results3]; first | exact J5 | refine J6 ?_)
 | true =>
  have hb := short_bk v gs
  rw [gs] at k20
  obtain ⟨sa', e, hm⟩ := bk_is hb
  have e := AV.agg.inj e
  simp only [List.cons.injEq, and_true, true_and] at e
  subst e
  have k24 := fun h => K24 (X := dX c3) rfl hb m h
  have k25 := fun h => K25 (X := dX c3) rfl s h
  have k22 := fun h => K22 (X := dX c3) rfl hb m s h
  have k23 := fun is h => C23 (c := c3) rfl rfl rfl rfl hb hm is h
  cases hn : numB b.moulds m with
  | false =>
   have e1 : knownV b m s = .tuple [.int .i64 0, .int .i64 0, .int .i64 2] := by unfold knownV; rw [hn]; simp
   have e2 : askI b false = 2 := by unfold askI; simp
   have k23 := k23 false
   rw [e1] at k22
   rw [e2] at k23
   rw [hn] at k24
   clear v gs hb hm hn e1 e2
   refine wK rfl Tryz.func3 rfl isRet_fail ?_
   repeat' (first | (apply W.drawQ (id := 4) (l1 := [0, 1, 2, 3, 4, 5, 6, 7, 8, 9]) (l2 := []); kernel_rfl; kernel_rfl; kernel_rfl; exact Z4) | refine go1 ?_ | refine uJ (k20 _) ?_ | refine uJ (k21 _) ?_ | refine uJ (k23 _) ?_ | refine uJ (k22 _) ?_ | refine uJ (k24 _) ?_ | (refine go2 ?_ ?_ <;> intro hh) | fail)
   all_goals (simp only [rV Tryz.func3, Tryz.results3]; first | exact J5 | refine J6 ?_)
  | true =>
   rw [hn] at k24
   cases hs : inB s 1 36 with
   | false =>
    have e1 : knownV b m s = .tuple [.int .i64 0, .int .i64 0, .int .i64 2] := by unfold knownV; rw [hn, hs]; simp
    have e2 : askI b false = 2 := by unfold askI; simp
    have k23 := k23 false
    rw [e1] at k22
    rw [e2] at k23
    rw [hs] at k25
    clear v gs hb hm hn hs e1 e2
    refine wK rfl Tryz.func3 rfl isRet_fail ?_
    repeat' (first | (apply W.drawQ (id := 4) (l1 := [0, 1, 2, 3, 4, 5, 6, 7, 8, 9]) (l2 := []); kernel_rfl; kernel_rfl; kernel_rfl; exact Z4) | refine go1 ?_ | refine uJ (k20 _) ?_ | refine uJ (k21 _) ?_ | refine uJ (k23 _) ?_ | refine uJ (k22 _) ?_ | refine uJ (k24 _) ?_ | refine uJ (k25 _) ?_ | (refine go2 ?_ ?_ <;> intro hh) | fail)
    all_goals (simp only [rV Tryz.func3, Tryz.results3]; first | exact J5 | refine J6 ?_)
   | true =>
    rw [hs] at k25
    have k23 := k23 true
    cases hbk : bookB b with
    | false =>
     have e1 : knownV b m s = .tuple [.int .i64 0, .int .i64 0, .int .i64 2] := by unfold knownV; rw [hbk]; simp
     have e2 : askI b true = 2 := by unfold askI; rw [hbk]; simp
     rw [e1] at k22
     rw [e2] at k23
     clear v gs hb hm hn hs hbk e1 e2
     refine wK rfl Tryz.func3 rfl isRet_fail ?_
     repeat' (first | (apply W.drawQ (id := 4) (l1 := [0, 1, 2, 3, 4, 5, 6, 7, 8, 9]) (l2 := []); kernel_rfl; kernel_rfl; kernel_rfl; exact Z4) | refine go1 ?_ | refine uJ (k20 _) ?_ | refine uJ (k21 _) ?_ | refine uJ (k23 _) ?_ | refine uJ (k22 _) ?_ | refine uJ (k24 _) ?_ | refine uJ (k25 _) ?_ | (refine go2 ?_ ?_ <;> intro hh) | fail)
     all_goals (simp only [rV Tryz.func3, Tryz.results3]; first | exact J5 | refine J6 ?_)
    | true =>
     cases had : allDays b.moulds with
     | false =>
      have e1 : knownV b m s = .tuple [.int .i64 0, .int .i64 0, .int .i64 7] := by unfold knownV; rw [hbk, hn, hs, had]; simp
      have e2 : askI b true = 7 := by unfold askI; rw [hbk, had]; simp
      rw [e1] at k22
      rw [e2] at k23
      clear v gs hb hm hn hs hbk had e1 e2
      refine wK rfl Tryz.func3 rfl isRet_fail ?_
      repeat' (first | (apply W.drawQ (id := 4) (l1 := [0, 1, 2, 3, 4, 5, 6, 7, 8, 9]) (l2 := []); kernel_rfl; kernel_rfl; kernel_rfl; exact Z4) | refine go1 ?_ | refine uJ (k20 _) ?_ | refine uJ (k21 _) ?_ | refine uJ (k23 _) ?_ | refine uJ (k22 _) ?_ | refine uJ (k24 _) ?_ | refine uJ (k25 _) ?_ | (refine go2 ?_ ?_ <;> intro hh) | fail)
      all_goals (simp only [rV Tryz.func3, Tryz.results3]; first | exact J5 | refine J6 ?_)
     | true =>
      have e2 : askI b true = 0 := by unfold askI; rw [hbk, had]; simp
      rw [e2] at k23
      obtain ⟨n, d, rfl, hd⟩ := num_at hn
      obtain ⟨ok, h3⟩ := book_md hbk hm.max hd
      have hL := bkL_of hbk hm.max
      have e1 : knownV b (n : Int) s = .tuple [.int .i64 ((snK b.moulds n d s : Nat) : Int), .int .i64 ((cnK b.moulds n d s : Nat) : Int), .int .i64 0] := by
       unfold knownV
       rw [hbk, hn, hs, had, mdAt_is hd, Int.toNat_natCast, sure_is hL hd, can_is hL hd]
       unfold snK cnK
       simp
      rw [e1] at k22
      have k26 := fun h => C26 (c := c3) rfl rfl b.miss b.ghost sa b.moulds hm hL (n + 1) n d (by omega) hd s s h
      have r1 : (((snK b.moulds n d s : Nat) : Int) == ((snK b.moulds n d s : Nat) : Int)) = true := by simp
      have r2 : (((cnK b.moulds n d s : Nat) : Int) == ((cnK b.moulds n d s : Nat) : Int)) = true := by simp
      clear v gs hb hm hn hs hbk had e1 e2 hd ok h3 hL
      generalize ((snK b.moulds n d s : Nat) : Int) = A at *
      generalize ((cnK b.moulds n d s : Nat) : Int) = B at *
      refine wK rfl Tryz.func3 rfl isRet_fail ?_
      repeat' (first | (apply W.drawQ (id := 4) (l1 := [0, 1, 2, 3, 4, 5, 6, 7, 8, 9]) (l2 := []); kernel_rfl; kernel_rfl; kernel_rfl; exact Z4) | refine go1 ?_ | refine uJ (k20 _) ?_ | refine uJ (k21 _) ?_ | refine uJ (k22 _) ?_ | refine uJ (k23 _) ?_ | refine uJ (k24 _) ?_ | refine uJ (k25 _) ?_ | refine uJ (k26 _) ?_ | (refine go2 ?_ ?_ <;> intro hh) | fail)
      all_goals (simp only [rV Tryz.func3, Tryz.results3]; first | exact J5 | refine J6 ?_)
end
end Go.AM
