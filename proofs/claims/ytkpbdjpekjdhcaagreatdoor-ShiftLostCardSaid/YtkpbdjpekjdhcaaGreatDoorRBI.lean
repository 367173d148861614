/-
  A part of the proof: contracts of functions.
-/
import Derived.Test.YtkpbdjpekjdhcaaGreatDoorRBG
import Derived.Test.YtkpbdjpekjdhcaaGreatDoorRBH
set_option linter.unusedSectionVars false
set_option linter.unusedVariables false
set_option linter.unusedSimpArgs false
set_option maxRecDepth 100000
namespace Go.AM
open Go Go.Proofs
variable [Keep]
attribute [local irreducible] W WO WO1 WD WQ WT thenQ blockQ endR isRet retK Cl ClR
open Go.TX (Rm Fa Ha Hs mapO mapO_len)
attribute [local irreducible] hasB metF houseB failsH highG lowG brV brG
theorem dan1_none {m : Hs} {li : Int} {p : List Int} : dan1 m li p = none ↔ (airS m p).2 ≤ li := by
 have hne : highsV m p ≠ [] := by
  have := fails_1 m
  unfold highsV
  intro e
  have := congrArg List.length e
  rw [List.length_map] at this
  simp only [List.length_nil] at this
  omega
 obtain ⟨h1, h2⟩ := maxL_is hne
 have e : (airS m p).2 = maxL' (highsV m p) := rfl
 rw [e]
 unfold dan1
 rw [List.find?_eq_none]
 constructor
 ·intro h
  unfold highsV at h1
  obtain ⟨f, hf, he⟩ := List.mem_map.1 h1
  have := h f hf
  simp only [decide_eq_true_eq] at this
  unfold highsV
  omega
 ·intro h f hf
  have := h2 (brV (highG m f) p) (by unfold highsV; exact List.mem_map.2 ⟨f, hf, rfl⟩)
  simp only [decide_eq_true_eq]
  omega
theorem dan_none {m : Hs} {g : List (List Int)} : ∀ {n : Nat}, danL m g n = none ↔ ∀ i, i < n → dan1 m (limAt m i) (g.getD i []) = none
 | 0 => ⟨fun _ i hi => by omega, fun _ => rfl⟩
 | n + 1 => by
  have ih := dan_none (m := m) (g := g) (n := n)
  constructor
  ·intro h
   simp only [danL] at h
   cases h1 : danL m g n with
   | some x => rw [h1] at h; cases h
   | none =>
    rw [h1] at h
    intro i hi
    by_cases e : i = n
    ·subst e
     simp only at h
     cases h2 : dan1 m (limAt m i) (g.getD i []) with
     | none => rfl
     | some f => rw [h2] at h; cases h
    ·exact ih.1 h1 i (by omega)
  ·intro h
   simp only [danL, ih.2 fun i hi => h i (by omega), h n (by omega)]
def stafB (m : Hs) (g : List (List Int)) : Bool := (List.range g.length).all fun i => decide (workedL (g.getD i []) ≤ mostAt m i) && decide ((airS m (g.getD i [])).2 ≤ limAt m i)
attribute [local irreducible] pathB airS
noncomputable def cRC : Itr
 | 82 => some (flatFnD sp82)
 | 121 => some (pureFn sp121)
 | 90 => some go90
 | 122 => some go122
 | 136 => some (pureFn sp136)
 | 137 => some (pureFn sp137)
 | _ => none
theorem cRC_sound : Sound (dX cRC) := dX_sound (fun f g h => by
 unfold cRC at h
 split at h
 ·cases h; exact F82D
 ·cases h; exact F121
 ·cases h; exact F90
 ·cases h; exact F122
 ·cases h; exact F136
 ·cases h; exact F137
 ·cases h)
theorem hdRC : CxD cRC := ⟨rfl, rfl, rfl, rfl, rfl⟩
def danV (m : Hs) (g : List (List Int)) : AV := if (houseB m && rosB m g) = true then .tuple [danE (danL m g g.length), .int .i64 (if (danL m g g.length).isSome = true then 0 else 5)] else .tuple [danE none, .int .i64 2]
def sp53 : List AV → Option AV
 | [x, dv] => match hsV x, lisV dv with
  | some m, some g => some (danV m g)
  | _, _ => none
 | _ => none
theorem danE_pur (o : Option (Nat × Fl)) : (danE o).pur = true := by
 cases o with
 | none => rfl
 | some x => rfl
theorem p53 : ∀ args v, sp53 args = some v → v.pur = true := by
 intro args v h
 unfold sp53 at h
 split at h
 ·split at h
  ·cases h
   unfold danV
   split
   ·simp only [AV.pur, AV.purL, danE_pur, Bool.and_self]
   ·rfl
  ·cases h
 ·cases h
set_option maxHeartbeats 8000000 in
theorem F53 : IntrFn Tryz.prog 53 (pureFn sp53) := by
 refine pure_fn (X := dX cRC) cRC_sound p53 ?_
 intro args v h
 unfold sp53 at h
 split at h
 ·rename_i xx dv
  split at h
  ·rename_i m g hm hg
   have h := Option.some.inj h
   subst h
   obtain ⟨ra, fa, oa, ha, rfl, hA⟩ := hs_parts' hm
   have o1 := sl_out hA.r
   have o2 := sl_out hA.f
   have o3 := sl_out hA.o
   have o4 := sl_out hA.h
   have ld := lis_len hg
   have od := lis_out hg
   have md := lis_max hg
   have k82 := fun h => K82p (X := dX cRC) rfl hA h
   unfold danV
   cases hb : houseB m with
   | false =>
    rw [hb] at k82
    simp only [Bool.false_and, Bool.false_eq_true, if_false, danE]
    clear hm hA hg hb
    refine ClR.walk (c := _) rfl Tryz.func53 rfl (by kernel_rfl) rfl isRet_fail ?_
    try simp only [entryEnv, Nat.reduceAdd, List.nil_append, List.cons_append, emptyHp]
    repeat' (first | refine goS ?_ | (apply U6; exact Z1; exact Z1; (focus (simp only [List.nil_append, List.append_nil]; first | exact k82 _)); simp only [pM, pN, rR, rP]) | refine go2 (fun hh => ?_) (fun hh => ?_) | fail)
    all_goals (simp only [resV_def (X := dX cRC) Tryz.func53, Tryz.results53]; first | exact J5 | refine J6 ?_)
    all_goals rfl
   | true =>
    rw [hb] at k82
    have k121 := fun h => K121 (X := dX cRC) rfl hA hb hg h
    cases hr : rosB m g with
    | false =>
     rw [hr] at k121
     simp only [Bool.true_and, Bool.false_eq_true, if_false, danE]
     clear hm hA hg hb hr
     refine ClR.walk (c := _) rfl Tryz.func53 rfl (by kernel_rfl) rfl isRet_fail ?_
     try simp only [entryEnv, Nat.reduceAdd, List.nil_append, List.cons_append, emptyHp]
     repeat' (first | refine goS ?_ | (apply U6; exact Z1; exact Z1; (focus (simp only [List.nil_append, List.append_nil]; first | exact k82 _ | exact k121 _)); simp only [pM, pN, rR, rP]) | refine go2 (fun hh => ?_) (fun hh => ?_) | fail)
     all_goals (simp only [resV_def (X := dX cRC) Tryz.func53, Tryz.results53]; first | exact J5 | refine J6 ?_)
     all_goals rfl
    | true =>
     rw [hr] at k121
     simp only [Bool.and_self, if_true]
     have ho := house_ok hb
     have hro := ros_ok hr
     have hl29 := fails_29 ho
     have hd := C83 hdRC m ra fa oa ha hA ho 0 .nil
     unfold ClR dayR at hd
     obtain ⟨_, hcl, h', a, mid, l, rfl, hx, hsl, hgm, hl, _⟩ := hd
     have hlook := fun (f : Fl) (hf : f ∈ failsH m) => look52 (m := m) (h := h') (id := mid) hgm (hl f hf)
     have hlen := sl_len hsl
     rw [List.length_map] at hlen
     have h122 := fun (f : Fl) (pa : AV) (p : List Int) (hp : slV intC pa = some p) (hq : pathB m p = true) => K122 (X := dX cRC) rfl (c0 := .int .i64 m.hours) (c1 := ra) (c2 := fa) (c3 := oa) (c4 := ha) (c5 := a) (c6 := .map mid) (pth_of (h := h') hp) (high_lis ho f) (brV_is ho hq (high_ok ho f)).1
     have oa5 := sl_out hsl
     have HLOOK := Lib.hid hlook
     have H122 := Lib.hid h122
     have HG := Lib.hid hg
     have HM := Lib.hid hA
     have HRO := Lib.hid hro
     have HSL := Lib.hid hsl
     have H29 := Lib.hid hl29
     clear hm hA hg hb hr ho hro hx hsl hgm hl hlook h122 hl29
     refine ClR.walk (c := _) rfl Tryz.func53 rfl (by kernel_rfl) rfl isRet_fail ?_
     try simp only [entryEnv, Nat.reduceAdd, List.nil_append, List.cons_append, emptyHp]
     repeat' (first | refine goS ?_ | (apply U6; exact Z1; exact Z1; (focus (simp only [List.nil_append, List.append_nil]; first | exact k82 _ | exact k121 _ | exact hcl)); simp only [pM, pN, rR, rP]) | refine go2 (fun hh => ?_) (fun hh => ?_) | fail)
     refine W.loopH (g.length) [2, 4, 6, 24, 25] [2, 6] (fun k e lm => e.get 26 = some (.int .i64 ↑k) ∧ lm.get 4 = some (0, [.int .i64 0, .int .i64 0, .int .i64 0, .int .i64 0]) ∧ danL m g k = none) ?_ ?_
     ·skip
      refine ⟨?_, ?_, ?_⟩
      all_goals first | exact Z2 | (simp [go_sem, *]; done) | skip
      all_goals rfl
     intro k e lm hk0 hce hcl hinv
     simp only [keepE, and_true] at hce
     obtain ⟨c2, c4, c6, c24, c25⟩ := hce
     simp only [go_sem, *, Nat.reduceLT, Int.reduceEq, Int.reduceBEq, Int.reduceLE, Int.reduceLT, Nat.reduceAdd, Nat.reduceBEq, Nat.reduceEqDiff, reduceIte, Nat.reduceLeDiff, Nat.reduceMul, Nat.reduceSub, reduceCtorEq] at c2 c4 c6 c24 c25
     simp only [keepL, and_true] at hcl
     obtain ⟨d2, d6⟩ := hcl
     simp only [go_sem, *, Nat.reduceLT, Int.reduceEq, Int.reduceBEq, Int.reduceLE, Int.reduceLT, Nat.reduceAdd, Nat.reduceBEq, Nat.reduceEqDiff, reduceIte, Nat.reduceLeDiff, Nat.reduceMul, Nat.reduceSub, reduceCtorEq] at d2 d6
     obtain ⟨h26, g4, hdn⟩ := hinv
     by_cases hlt : k < g.length
     ·have hd0 : decide ((k : Int) < ((g.length : Nat) : Int)) = true := by first | (simpa using hlt; done) | (simp only [decide_eq_true_eq]; omega)
      have hv_0 := wrap_succ hlt md
      obtain ⟨p, hp⟩ := get_some hlt
      obtain ⟨b, hb1, hb2⟩ := lis_idx HG.out hp
      have hpp := HRO.out.path p (List.mem_of_getElem? hp)
      obtain ⟨x, hxx⟩ := get_some (l := m.hands) (k := k) (by have := HRO.out.len; omega)
      have hix := fun H => has_idx HM.out.h hxx H
      have hgp : g.getD k [] = p := by simp [List.getD, hp]
      have hmx : limAt m k = x.limit := by unfold limAt; rw [hxx]
      have ob := sl_out hb1
      have hcb := (slV_is hb1).1.cells
      have htb := (slV_is hb1).1.tup
      simp only [AV.cells] at hcb
      simp only [isTuple] at htb
      have hnx : danL m g (k + 1) = match dan1 m x.limit p with | some f => some (k, f) | none => none := by
       simp only [danL, hdn, hgp, hmx]
       cases dan1 m x.limit p <;> rfl
      have hk3 := fun f => H122.out f b p hb1 hpp
      obtain ⟨gg, hng⟩ : ∃ gg, nextGen lm 9 = gg := ⟨_, rfl⟩
      unfold nextGen at hng
      have HK3 := Lib.hid hk3
      have HNX := Lib.hid hnx
      have HLT0 := Lib.hid hlt
      clear hb1 hp hpp hxx hgp hmx hnx hdn hlt hk3
      repeat' (first | refine goS ?_ | refine go2 (fun hh => ?_) (fun hh => ?_) | fail)
      refine W.loopH ((failsH m).length) [2, 4, 6, 7, 9, 24, 25, 26, 35, 36] [2, 6, 9] (fun j e1 lm1 => e1.get 37 = some (.int .i64 ↑j) ∧ lm1.get 4 = some (0, [.int .i64 0, .int .i64 0, .int .i64 0, .int .i64 0]) ∧ ((failsH m).take j).find? (fun f => decide (brV (highG m f) p > x.limit)) = none) ?_ ?_
      ·skip
       refine ⟨?_, ?_, ?_⟩
       all_goals first | exact Z2 | (simp [go_sem, *]; done) | skip
       all_goals rfl
      intro j e1 lm1 hk1 hce hcl hinv
      simp only [keepE, and_true] at hce
      obtain ⟨c2, c4, c6, c7, c9, c24, c25, c26, c35, c36⟩ := hce
      simp only [go_sem, *, Nat.reduceLT, Int.reduceEq, Int.reduceBEq, Int.reduceLE, Int.reduceLT, Nat.reduceAdd, Nat.reduceBEq, Nat.reduceEqDiff, reduceIte, Nat.reduceLeDiff, Nat.reduceMul, Nat.reduceSub, reduceCtorEq] at c2 c4 c6 c7 c9 c24 c25 c26 c35 c36
      simp only [keepL, and_true] at hcl
      obtain ⟨d2, d6, d9⟩ := hcl
      simp only [go_sem, *, Nat.reduceLT, Int.reduceEq, Int.reduceBEq, Int.reduceLE, Int.reduceLT, Nat.reduceAdd, Nat.reduceBEq, Nat.reduceEqDiff, reduceIte, Nat.reduceLeDiff, Nat.reduceMul, Nat.reduceSub, reduceCtorEq] at d2 d6 d9
      obtain ⟨h37, g4, hfn⟩ := hinv
      by_cases hjt : j < (failsH m).length
      ·have hd1 : decide ((j : Int) < (((failsH m).length : Nat) : Int)) = true := by first | (simpa using hjt; done) | (simp only [decide_eq_true_eq]; omega)
       have hv_1 := wrap_succ hjt (by have := H29.out; unfold maxL; omega)
       obtain ⟨f, hf⟩ := get_some hjt
       have hi1 := fun H => fks_idx HSL.out (k := j) (p := f.tell) (by rw [List.getElem?_map, hf]; rfl) H
       have lkf := HLOOK.out f (List.mem_of_getElem? hf)
       have k122 := HK3.out f
       have hbf : boundsE m f = .agg [slN (rowsE (lowG m f)), slN (rowsE (highG m f))] := by unfold boundsE lowG highG; rfl
       rw [hbf] at lkf
       have w1 := (slN_is (rowsE (lowG m f))).out
       have w2 := (slN_is (rowsE (highG m f))).out
       have hno : decide (brV (highG m f) p > x.limit) = false → ((failsH m).take (j + 1)).find? (fun f => decide (brV (highG m f) p > x.limit)) = none := fun e => find_no hf hfn e
       have hyes : decide (brV (highG m f) p > x.limit) = true → dan1 m x.limit p = some f := fun e => find_at hf hfn e
       obtain ⟨ga, hna⟩ : ∃ ga, nextGen lm1 11 = ga := ⟨_, rfl⟩
       unfold nextGen at hna
       have HNO := Lib.hid hno
       have HYES := Lib.hid hyes
       have HLT1 := Lib.hid hjt
       simp only [fkC] at lkf
       clear hf hfn hno hyes hjt hbf
       generalize slN (rowsE (lowG m f)) = gl at *
       generalize slN (rowsE (highG m f)) = gh at *
       generalize hbr : brV (highG m f) p = br at *
       cases e : decide (br > x.limit) with
       | true =>
        have e1 : danL m g g.length = some (k, f) := dan_to (k := k + 1) (by rw [HNX.out, HYES.out e]) (by have := HLT0.out; omega)
        rw [e1]
        simp only [danE, Option.isSome_some, if_true]
        clear e1 hbr
        repeat' (first | (apply W.drawQ (id := 11) (l1 := [0, 1, 2, 3, 4, 5, 6, 7, 8, 9, 10, 11, 12, 13]) (l2 := []); kernel_rfl; kernel_rfl; kernel_rfl; exact Z4) | refine go1 ?_ | (apply U6; exact Z1; exact Z1; (focus (simp only [List.nil_append, List.append_nil]; first | exact k122)); simp only [pM, pN, rR, rP]) | refine go2 (fun hh => ?_) (fun hh => ?_) | fail)
        all_goals (simp only [resV_def (X := dX cRC) Tryz.func53, Tryz.results53]; first | exact J5 | refine J6 ?_)
        all_goals rfl
       | false =>
        clear hbr
        repeat' (first | (apply W.drawQ (id := 11) (l1 := [0, 1, 2, 3, 4, 5, 6, 7, 8, 9, 10, 11, 12, 13]) (l2 := []); kernel_rfl; kernel_rfl; kernel_rfl; exact Z4) | refine go1 ?_ | (apply U6; exact Z1; exact Z1; (focus (simp only [List.nil_append, List.append_nil]; first | exact k122)); simp only [pM, pN, rR, rP]) | refine go2 (fun hh => ?_) (fun hh => ?_) | fail)
        all_goals refine contH_mk (by first | assumption | exact HLT1.out | exact HLT0.out) (by simp only [keepE, and_true, and_self, go_sem, *, Nat.reduceLT, Int.reduceEq, Int.reduceBEq, Int.reduceLE, Int.reduceLT, Nat.reduceAdd, Nat.reduceBEq, Nat.reduceEqDiff, reduceIte, Nat.reduceLeDiff, Nat.reduceMul, Nat.reduceSub, reduceCtorEq]) (by simp only [keepL, and_true, and_self, go_sem, *, Nat.reduceLT, Int.reduceEq, Int.reduceBEq, Int.reduceLE, Int.reduceLT, Nat.reduceAdd, Nat.reduceBEq, Nat.reduceEqDiff, reduceIte, Nat.reduceLeDiff, Nat.reduceMul, Nat.reduceSub, reduceCtorEq]) ?_
        all_goals refine ⟨?_, ?_, ?_⟩
        all_goals first | exact Z2 | skip
        all_goals exact HNO.out e
      ·have hd1 : decide ((j : Int) < (((failsH m).length : Nat) : Int)) = false := by first | (simpa using hjt; done) | (simp only [decide_eq_false_iff_not]; omega)
       obtain rfl : j = (failsH m).length := by omega
       rw [List.take_length] at hfn
       have e1 : danL m g (k + 1) = none := by
        rw [HNX.out]
        unfold dan1
        rw [hfn]
       have HE1 := Lib.hid e1
       clear hfn e1
       repeat' (first | refine goS ?_ | refine go2 (fun hh => ?_) (fun hh => ?_) | fail)
       all_goals refine contH_mk (by first | assumption | exact HLT0.out | exact HLT0.out) (by simp only [keepE, and_true, and_self, go_sem, *, Nat.reduceLT, Int.reduceEq, Int.reduceBEq, Int.reduceLE, Int.reduceLT, Nat.reduceAdd, Nat.reduceBEq, Nat.reduceEqDiff, reduceIte, Nat.reduceLeDiff, Nat.reduceMul, Nat.reduceSub, reduceCtorEq]) (by simp only [keepL, and_true, and_self, go_sem, *, Nat.reduceLT, Int.reduceEq, Int.reduceBEq, Int.reduceLE, Int.reduceLT, Nat.reduceAdd, Nat.reduceBEq, Nat.reduceEqDiff, reduceIte, Nat.reduceLeDiff, Nat.reduceMul, Nat.reduceSub, reduceCtorEq]) ?_
       all_goals refine ⟨?_, ?_, ?_⟩
       all_goals first | exact Z2 | skip
       all_goals exact HE1.out
     ·have hd0 : decide ((k : Int) < ((g.length : Nat) : Int)) = false := by first | (simpa using hlt; done) | (simp only [decide_eq_false_iff_not]; omega)
      obtain rfl : k = g.length := by omega
      rw [hdn]
      simp only [danE, Option.isSome_none, Bool.false_eq_true, if_false]
      clear hdn
      repeat' (first | refine goS ?_ | refine go2 (fun hh => ?_) (fun hh => ?_) | fail)
      all_goals (simp only [resV_def (X := dX cRC) Tryz.func53, Tryz.results53]; first | exact J5 | refine J6 ?_)
      all_goals rfl
  ·cases h
 ·cases h
theorem K53 {X : Ctx} (hX : X.intr 53 = some (pureFn sp53)) {m : Hs} {ra fa oa ha dv : AV} {g : List (List Int)} (hm : HsA m ra fa oa ha) (hg : lisV dv = some g) (h : Heap) : Cl X 53 [.agg [.int .i64 m.hours, ra, fa, oa, ha], dv] h (.ret (danV m g) h none) :=
 Cl.intr hX (by
  have h1 := hm.pur
  have h2 := hm.hs
  simp only [pureFn, AV.purL, h1, lis_pur hg, Bool.and_self, if_true, sp53, h2, hg])
end Go.AM
