/-
  A part of the proof: contracts of functions.
-/
import Derived.Test.YtkpbdjpekjdhcaaGreatDoorXBH
import Derived.Test.YtkpbdjpekjdhcaaGreatDoorXBI
set_option linter.unusedSectionVars false
set_option linter.unusedVariables false
set_option linter.unusedSimpArgs false
set_option maxRecDepth 100000
namespace Go.AM
open Go Go.Proofs
variable [Keep]
attribute [local irreducible] W WO WO1 WD WQ WT thenQ blockQ endR isRet retK Cl ClR
open Go.TX (Rm Fa Ha Hs mapO mapO_len)
attribute [local irreducible] hasB metF houseB failsH highG lowG brV brG
theorem count_fold (x : Int) : ∀ (l : List Int) (n : Nat), n + l.length <= 1000 -> l.foldl (fun (n : Int) y => if (y == x) = true then w64 (n + 1) else n) (n : Int) = ((n + l.count x : Nat) : Int)
 | [], n, _ => by simp
 | a :: l, n, h => by
  simp only [List.length_cons] at h
  rw [List.foldl_cons, List.count_cons]
  cases e : (a == x) with
  | true =>
   simp only [if_true]
   have e1 : w64 ((n : Int) + 1) = ((n + 1 : Nat) : Int) := by rw [w64_small (by omega) (by omega)]; omega
   rw [e1, count_fold x l (n + 1) (by omega)]
   congr 1
   omega
  | false =>
   simp only [Bool.false_eq_true, if_false]
   rw [count_fold x l n (by omega)]
   congr 1
theorem worked_busy {p : List Int} (hl : p.length <= 1000) (h : ∀ x ∈ p, -1 <= x) : workedL p = busyL p := by
 have h1 : countL p (-1) = (p.count (-1) : Int) := by
  unfold countL
  have := count_fold (-1) p 0 (by omega)
  simpa using this
 have h2 : ∀ l : List Int, (∀ x ∈ l, -1 <= x) -> l.count (-1) + l.countP (fun r => decide (r >= 0)) = l.length := by
  intro l
  induction l with
  | nil => intro _; rfl
  | cons a l ih =>
   intro h
   have ha := h a (by simp)
   have ih := ih fun x hx => h x (by simp [hx])
   rw [List.count_cons, List.countP_cons, List.length_cons]
   by_cases e : a = -1
   ·subst e
    have e1 : ((-1 : Int) == -1) = true := by decide
    have e2 : decide ((-1 : Int) >= 0) = false := by decide
    rw [e1, e2, if_pos rfl, if_neg (by decide)]
    omega
   ·have e1 : (a == -1) = false := by simp [e]
    have e2 : decide (a >= 0) = true := by simp only [decide_eq_true_eq]; omega
    rw [e1, e2, if_neg (by decide), if_pos rfl]
    omega
 have h3 := h2 p h
 have h4 : p.count (-1) <= p.length := List.count_le_length
 unfold workedL busyL
 rw [h1, w64_small (by omega) (by omega)]
 omega
theorem dan1_none {m : Hs} {li : Int} {p : List Int} : dan1 m li p = none ↔ (airS m p).2 <= li := by
 have hne : highsV m p ≠ [] := by
  have := fails_1 m
  unfold highsV
  intro e
  have := congrArg List.length e
  rw [List.length_map] at this
  simp only [List.length_nil] at this
  omega
 obtain ⟨h1, h2⟩ := maxL_is hne
 have e : (airS m p).2 = maxL' (highsV m p) := rfl
 rw [e]
 unfold dan1
 rw [List.find?_eq_none]
 constructor
 ·intro h
  unfold highsV at h1
  obtain ⟨f, hf, he⟩ := List.mem_map.1 h1
  have := h f hf
  simp only [decide_eq_true_eq] at this
  unfold highsV
  omega
 ·intro h f hf
  have := h2 (brV (highG m f) p) (by unfold highsV; exact List.mem_map.2 ⟨f, hf, rfl⟩)
  simp only [decide_eq_true_eq]
  omega
theorem dan_none {m : Hs} {g : List (List Int)} : ∀ {n : Nat}, danL m g n = none ↔ ∀ i, i < n -> dan1 m (limAt m i) (g.getD i []) = none
 | 0 => ⟨fun _ i hi => by omega, fun _ => rfl⟩
 | n + 1 => by
  have ih := dan_none (m := m) (g := g) (n := n)
  constructor
  ·intro h
   simp only [danL] at h
   cases h1 : danL m g n with
   | some x => rw [h1] at h; cases h
   | none =>
    rw [h1] at h
    intro i hi
    by_cases e : i = n
    ·subst e
     simp only at h
     cases h2 : dan1 m (limAt m i) (g.getD i []) with
     | none => rfl
     | some f => rw [h2] at h; cases h
    ·exact ih.1 h1 i (by omega)
  ·intro h
   simp only [danL, ih.2 fun i hi => h i (by omega), h n (by omega)]
def stafB (m : Hs) (g : List (List Int)) : Bool := (List.range g.length).all fun i => decide (workedL (g.getD i []) <= mostAt m i) && decide ((airS m (g.getD i [])).2 <= limAt m i)
theorem staf_kept {m : Hs} (ho : HOk m) {g : List (List Int)} (hp : ∀ p ∈ g, pathB m p = true) : stafB m g = keptR m g := by
 have hw : ∀ i, i < g.length -> workedL (g.getD i []) = busyL (g.getD i []) := fun i hi => by
  obtain ⟨p, hpi⟩ := get_some hi
  have : g.getD i [] = p := by simp [List.getD, hpi]
  rw [this]
  obtain ⟨q1, q2⟩ := path_is ho (hp p (List.mem_of_getElem? hpi))
  have hh := ho.hours
  exact worked_busy (by omega) fun x hx => (q2 x hx).1
 have hd := dan_none (m := m) (g := g) (n := g.length)
 unfold stafB keptR fairB
 rw [Bool.eq_iff_iff, Bool.and_eq_true, Option.isNone_iff_eq_none, List.all_eq_true, List.all_eq_true]
 constructor
 ·intro h
  refine ⟨hd.2 fun i hi => ?_, fun i hi => ?_⟩
  ·have := h i (List.mem_range.2 hi)
   simp only [Bool.and_eq_true, decide_eq_true_eq] at this
   exact dan1_none.2 this.2
  ·have := h i hi
   simp only [Bool.and_eq_true, decide_eq_true_eq] at this
   rw [hw i (List.mem_range.1 hi)] at this
   simp only [Bool.not_eq_true', decide_eq_false_iff_not]
   omega
 ·intro h i hi
  have h1 := h.2 i hi
  have h2 := dan1_none.1 (hd.1 h.1 i (List.mem_range.1 hi))
  rw [hw i (List.mem_range.1 hi)]
  simp only [Bool.not_eq_true', decide_eq_false_iff_not] at h1
  simp only [Bool.and_eq_true, decide_eq_true_eq]
  omega
attribute [local irreducible] pathB airS
theorem K90d {X : Ctx} (hX : X.intr 90 = some go90) {m : Hs} (ho : HOk m) {z1 z2 z3 z4 a pa : AV} {mid : Nat} {l : List Fl} {h : Heap} {p : List Int} (li mo : Int) (ha : slV fkC a = some ((failsH m).map Fl.tell)) (hg : h.get mid = some (.mp (entE m l))) (hl : ∀ f ∈ failsH m, f ∈ l) (hp : pthV h pa = some p) (hb : pathB m p = true) :
  Cl X 90 [.agg [.int .i64 m.hours, z1, z2, z3, z4, a, .map mid], .agg [.int .i64 li, .int .i64 mo], pa] h (.ret (.bool (decide (workedL p <= mo) && decide ((airS m p).2 <= li))) h none) := by
 have h1 := mapO_dust ho hg hl
 have h2 := air_most ho hb
 unfold gsH at h2
 exact Cl.intr hX (by simp only [go90, go140, ha, hp, h1, h2])
noncomputable def cRC : Itr
 | 82 => some (flatFnD sp82)
 | 121 => some (pureFn sp121)
 | 90 => some go90
 | 122 => some go122
 | 136 => some (pureFn sp136)
 | 137 => some (pureFn sp137)
 | _ => none
theorem cRC_sound : Sound (dX cRC) := dX_sound (fun f g h => by
 unfold cRC at h
 split at h
 ·cases h; exact F82D
 ·cases h; exact F121
 ·cases h; exact F90
 ·cases h; exact F122
 ·cases h; exact F136
 ·cases h; exact F137
 ·cases h)
theorem hdRC : CxD cRC := ⟨rfl, rfl, rfl, rfl, rfl⟩
def stafV (m : Hs) (g : List (List Int)) : AV := if (houseB m && rosB m g) = true then .tuple [.bool (stafB m g), .int .i64 0] else .tuple [.bool false, .int .i64 2]
def danV (m : Hs) (g : List (List Int)) : AV := if (houseB m && rosB m g) = true then .tuple [danE (danL m g g.length), .int .i64 (if (danL m g g.length).isSome = true then 0 else 5)] else .tuple [danE none, .int .i64 2]
def sp52 : List AV -> Option AV
 | [x, dv] => match hsV x, lisV dv with
  | some m, some g => some (stafV m g)
  | _, _ => none
 | _ => none
def sp53 : List AV -> Option AV
 | [x, dv] => match hsV x, lisV dv with
  | some m, some g => some (danV m g)
  | _, _ => none
 | _ => none
theorem danE_pur (o : Option (Nat × Fl)) : (danE o).pur = true := by
 cases o with
 | none => rfl
 | some x => rfl
theorem p52 : ∀ args v, sp52 args = some v -> v.pur = true := by
 intro args v h
 unfold sp52 at h
 split at h
 ·split at h
  ·cases h; unfold stafV; split <;> rfl
  ·cases h
 ·cases h
theorem p53 : ∀ args v, sp53 args = some v -> v.pur = true := by
 intro args v h
 unfold sp53 at h
 split at h
 ·split at h
  ·cases h
   unfold danV
   split
   ·simp only [AV.pur, AV.purL, danE_pur, Bool.and_self]
   ·rfl
  ·cases h
 ·cases h
set_option maxHeartbeats 8000000 in
theorem F52 : IntrFn Tryz.prog 52 (pureFn sp52) := by
 refine pure_fn (X := dX cRC) cRC_sound p52 ?_
 intro args v h
 unfold sp52 at h
 split at h
 ·rename_i xx dv
  split at h
  ·rename_i m g hm hg
   have h := Option.some.inj h
   subst h
   obtain ⟨ra, fa, oa, ha, rfl, hA⟩ := hs_parts' hm
   have o1 := sl_out hA.r
   have o2 := sl_out hA.f
   have o3 := sl_out hA.o
   have o4 := sl_out hA.h
   have ld := lis_len hg
   have od := lis_out hg
   have md := lis_max hg
   have k82 := fun h => K82p (X := dX cRC) rfl hA h
   unfold stafV
   cases hb : houseB m with
   | false =>
    rw [hb] at k82
    simp only [Bool.false_and, Bool.false_eq_true, if_false]
    clear hm hA hg hb
    refine ClR.walk (c := _) rfl Tryz.func52 rfl (by kernel_rfl) rfl isRet_fail ?_
    try simp only [entryEnv, Nat.reduceAdd, List.nil_append, List.cons_append, emptyHp]
    repeat' (first | refine goS ?_ | (apply U6; exact Z1; exact Z1; (exact k82 _); simp only [pM, pN, rR, rP]) | (refine go2 ?_ ?_ <;> intro hh) | fail)
    all_goals (simp only [resV_def (X := dX cRC) Tryz.func52, Tryz.results52]; first | exact J5 | refine J6 ?_)
    all_goals rfl
   | true =>
    rw [hb] at k82
    have k121 := fun h => K121 (X := dX cRC) rfl hA hb hg h
    cases hr : rosB m g with
    | false =>
     rw [hr] at k121
     simp only [Bool.true_and, Bool.false_eq_true, if_false]
     clear hm hA hg hb hr
     refine ClR.walk (c := _) rfl Tryz.func52 rfl (by kernel_rfl) rfl isRet_fail ?_
     try simp only [entryEnv, Nat.reduceAdd, List.nil_append, List.cons_append, emptyHp]
     repeat' (first | refine goS ?_ | (apply U6; exact Z1; exact Z1; (focus (first | exact k82 _ | exact k121 _)); simp only [pM, pN, rR, rP]) | (refine go2 ?_ ?_ <;> intro hh) | fail)
     all_goals (simp only [resV_def (X := dX cRC) Tryz.func52, Tryz.results52]; first | exact J5 | refine J6 ?_)
     all_goals rfl
    | true =>
     rw [hr] at k121
     simp only [Bool.and_self, if_true]
     have ho := house_ok hb
     have hro := ros_ok hr
     have hd := C83 hdRC m ra fa oa ha hA ho 0 .nil
     unfold ClR dayR at hd
     obtain ⟨_, hcl, h', a, mid, l, rfl, hx, hsl, hgm, hl, _⟩ := hd
     have h90 := fun (pa : AV) (p : List Int) (li mo : Int) (hp : slV intC pa = some p) (hq : pathB m p = true) => K90d (X := dX cRC) rfl ho (z1 := ra) (z2 := fa) (z3 := oa) (z4 := ha) li mo hsl hgm hl (pth_of hp) hq
     have oa5 := sl_out hsl
     have H90 := J1 h90
     have HG := J1 hg
     have HM := J1 hA
     have HRO := J1 hro
     unfold stafB
     clear hm hA hg hb hr ho hro hx hsl hgm hl h90
     refine ClR.walk (c := _) rfl Tryz.func52 rfl (by kernel_rfl) rfl isRet_fail ?_
     try simp only [entryEnv, Nat.reduceAdd, List.nil_append, List.cons_append, emptyHp]
     repeat' (first | refine goS ?_ | (apply U6; exact Z1; exact Z1; (focus (first | exact k82 _ | exact k121 _ | exact hcl)); simp only [pM, pN, rR, rP]) | (refine go2 ?_ ?_ <;> intro hh) | fail)
     refine W.loopH (g.length) [2, 6, 20, 21] [2, 6] (fun k e lm => e.get 22 = some (.int .i64 ↑k) /\ (List.range k).all (fun i => decide (workedL (g.getD i []) <= mostAt m i) && decide ((airS m (g.getD i [])).2 <= limAt m i)) = true) ?_ ?_
     ·skip
      refine ⟨?_, ?_⟩
      all_goals first | exact Z2 | (simp [go_sem, *]; done) | skip
      all_goals rfl
     intro k e lm hk0 hce hcl hinv
     simp only [keepE, and_true] at hce
     obtain ⟨c2, c6, c20, c21⟩ := hce
     simp only [go_sem, *, Nat.reduceBEq, Nat.reduceEqDiff, reduceIte] at c2 c6 c20 c21
     simp only [keepL, and_true] at hcl
     obtain ⟨d2, d6⟩ := hcl
     simp only [go_sem, *, Nat.reduceBEq, Nat.reduceEqDiff, reduceIte] at d2 d6
     obtain ⟨h22, hal⟩ := hinv
     by_cases hlt : k < g.length
     ·have hd0 : decide ((k : Int) < ((g.length : Nat) : Int)) = true := by first | (simpa using hlt; done) | (simp only [decide_eq_true_eq]; omega)
      have hv_0 := wrap_succ hlt md
      obtain ⟨p, hp⟩ := get_some hlt
      obtain ⟨b, hb1, hb2⟩ := lis_idx HG.out hp
      obtain ⟨x, hxx⟩ := get_some (l := m.hands) (k := k) (by have := HRO.out.len; omega)
      have hix := fun H => has_idx HM.out.h hxx H
      have hgp : g.getD k [] = p := by simp [List.getD, hp]
      have hmx : mostAt m k = x.most := by unfold mostAt; rw [hxx]
      have hlx : limAt m k = x.limit := by unfold limAt; rw [hxx]
      have k90 := H90.out b p x.limit x.most hb1 (HRO.out.path p (List.mem_of_getElem? hp))
      have ob := sl_out hb1
      have hcb := (slV_is hb1).1.cells
      have htb := (slV_is hb1).1.tup
      simp only [AV.cells] at hcb
      simp only [isTuple] at htb
      have hat : (decide (workedL (g.getD k []) <= mostAt m k) && decide ((airS m (g.getD k [])).2 <= limAt m k)) = (decide (workedL p <= x.most) && decide ((airS m p).2 <= x.limit)) := by rw [hgp, hmx, hlx]
      have hnx : (List.range (k + 1)).all (fun i => decide (workedL (g.getD i []) <= mostAt m i) && decide ((airS m (g.getD i [])).2 <= limAt m i)) = (decide (workedL p <= x.most) && decide ((airS m p).2 <= x.limit)) := by
       rw [List.range_succ, List.all_append, hal, List.all_cons, hat]; simp
      have HAT := J1 hat
      have HNX := J1 hnx
      have HLT0 := J1 hlt
      clear hp hb1 hxx hgp hmx hlx hat hnx hal hlt
      generalize hbu : (decide (workedL p <= x.most) && decide ((airS m p).2 <= x.limit)) = bu at *
      cases bu with
      | false =>
       have hno : (List.range g.length).all (fun i => decide (workedL (g.getD i []) <= mostAt m i) && decide ((airS m (g.getD i [])).2 <= limAt m i)) = false := by
        rw [List.all_eq_false]
        exact ⟨k, List.mem_range.2 HLT0.out, by rw [HAT.out]; simp⟩
       rw [hno]
       clear hno hbu
       repeat' (first | (apply W.drawQ (id := 7) (l1 := [0, 1, 2, 3, 4, 5, 6, 7, 8]) (l2 := []); kernel_rfl; kernel_rfl; kernel_rfl; exact Z4) | refine go1 ?_ | (apply U6; exact Z1; exact Z1; (exact k90); simp only [pM, pN, rR, rP]) | (refine go2 ?_ ?_ <;> intro hh) | fail)
       all_goals (simp only [resV_def (X := dX cRC) Tryz.func52, Tryz.results52]; first | exact J5 | refine J6 ?_)
       all_goals rfl
      | true =>
       have HBU := J1 hbu
       clear hbu
       repeat' (first | (apply W.drawQ (id := 7) (l1 := [0, 1, 2, 3, 4, 5, 6, 7, 8]) (l2 := []); kernel_rfl; kernel_rfl; kernel_rfl; exact Z4) | refine go1 ?_ | (apply U6; exact Z1; exact Z1; (exact k90); simp only [pM, pN, rR, rP]) | (refine go2 ?_ ?_ <;> intro hh) | fail)
       all_goals refine contH_mk J9 J7 J8 ?_
       all_goals refine ⟨?_, ?_⟩
       all_goals first | exact Z2 | skip
       all_goals exact HNX.out
     ·have hd0 : decide ((k : Int) < ((g.length : Nat) : Int)) = false := by first | (simpa using hlt; done) | (simp only [decide_eq_false_iff_not]; omega)
      obtain rfl : k = g.length := by omega
      rw [hal]
      clear hal
      repeat' (first | refine goS ?_ | (refine go2 ?_ ?_ <;> intro hh) | fail)
      all_goals (simp only [resV_def (X := dX cRC) Tryz.func52, Tryz.results52]; first | exact J5 | refine J6 ?_)
      all_goals rfl
  ·cases h
 ·cases h
theorem K52 {X : Ctx} (hX : X.intr 52 = some (pureFn sp52)) {m : Hs} {ra fa oa ha dv : AV} {g : List (List Int)} (hm : HsA m ra fa oa ha) (hg : lisV dv = some g) (h : Heap) : Cl X 52 [.agg [.int .i64 m.hours, ra, fa, oa, ha], dv] h (.ret (stafV m g) h none) :=
 Cl.intr hX (by
  have h1 := hm.pur
  have h2 := hm.hs
  simp only [pureFn, AV.purL, h1, lis_pur hg, Bool.and_self, if_true, sp52, h2, hg])
set_option maxHeartbeats 8000000 in
theorem F53 : IntrFn Tryz.prog 53 (pureFn sp53) := by
 refine pure_fn (X := dX cRC) cRC_sound p53 ?_
 intro args v h
 unfold sp53 at h
 split at h
 ·rename_i xx dv
  split at h
  ·rename_i m g hm hg
   have h := Option.some.inj h
   subst h
   obtain ⟨ra, fa, oa, ha, rfl, hA⟩ := hs_parts' hm
   have o1 := sl_out hA.r
   have o2 := sl_out hA.f
   have o3 := sl_out hA.o
   have o4 := sl_out hA.h
   have ld := lis_len hg
   have od := lis_out hg
   have md := lis_max hg
   have k82 := fun h => K82p (X := dX cRC) rfl hA h
   unfold danV
   cases hb : houseB m with
   | false =>
    rw [hb] at k82
    simp only [Bool.false_and, Bool.false_eq_true, if_false, danE]
    clear hm hA hg hb
    refine ClR.walk (c := _) rfl Tryz.func53 rfl (by kernel_rfl) rfl isRet_fail ?_
    try simp only [entryEnv, Nat.reduceAdd, List.nil_append, List.cons_append, emptyHp]
    repeat' (first | refine goS ?_ | (apply U6; exact Z1; exact Z1; (exact k82 _); simp only [pM, pN, rR, rP]) | (refine go2 ?_ ?_ <;> intro hh) | fail)
    all_goals (simp only [resV_def (X := dX cRC) Tryz.func53, Tryz.results53]; first | exact J5 | refine J6 ?_)
    all_goals rfl
   | true =>
    rw [hb] at k82
    have k121 := fun h => K121 (X := dX cRC) rfl hA hb hg h
    cases hr : rosB m g with
    | false =>
     rw [hr] at k121
     simp only [Bool.true_and, Bool.false_eq_true, if_false, danE]
     clear hm hA hg hb hr
     refine ClR.walk (c := _) rfl Tryz.func53 rfl (by kernel_rfl) rfl isRet_fail ?_
     try simp only [entryEnv, Nat.reduceAdd, List.nil_append, List.cons_append, emptyHp]
     repeat' (first | refine goS ?_ | (apply U6; exact Z1; exact Z1; (focus (first | exact k82 _ | exact k121 _)); simp only [pM, pN, rR, rP]) | (refine go2 ?_ ?_ <;> intro hh) | fail)
     all_goals (simp only [resV_def (X := dX cRC) Tryz.func53, Tryz.results53]; first | exact J5 | refine J6 ?_)
     all_goals rfl
    | true =>
     rw [hr] at k121
     simp only [Bool.and_self, if_true]
     have ho := house_ok hb
     have hro := ros_ok hr
     have hl29 := fails_29 ho
     have hd := C83 hdRC m ra fa oa ha hA ho 0 .nil
     unfold ClR dayR at hd
     obtain ⟨_, hcl, h', a, mid, l, rfl, hx, hsl, hgm, hl, _⟩ := hd
     have hlook := fun (f : Fl) (hf : f ∈ failsH m) => look52 (m := m) (h := h') (id := mid) hgm (hl f hf)
     have hlen := sl_len hsl
     rw [List.length_map] at hlen
     have h122 := fun (f : Fl) (pa : AV) (p : List Int) (hp : slV intC pa = some p) (hq : pathB m p = true) => K122 (X := dX cRC) rfl (c0 := .int .i64 m.hours) (c1 := ra) (c2 := fa) (c3 := oa) (c4 := ha) (c5 := a) (c6 := .map mid) (pth_of (h := h') hp) (high_lis ho f) (brV_is ho hq (high_ok ho f)).1
     have oa5 := sl_out hsl
     have HLOOK := J1 hlook
     have H122 := J1 h122
     have HG := J1 hg
     have HM := J1 hA
     have HRO := J1 hro
     have HSL := J1 hsl
     have H29 := J1 hl29
     clear hm hA hg hb hr ho hro hx hsl hgm hl hlook h122 hl29
     refine ClR.walk (c := _) rfl Tryz.func53 rfl (by kernel_rfl) rfl isRet_fail ?_
     try simp only [entryEnv, Nat.reduceAdd, List.nil_append, List.cons_append, emptyHp]
     repeat' (first | refine goS ?_ | (apply U6; exact Z1; exact Z1; (focus (first | exact k82 _ | exact k121 _ | exact hcl)); simp only [pM, pN, rR, rP]) | (refine go2 ?_ ?_ <;> intro hh) | fail)
     refine W.loopH (g.length) [2, 4, 6, 24, 25] [2, 6] (fun k e lm => e.get 26 = some (.int .i64 ↑k) /\ lm.get 4 = some (0, [.int .i64 0, .int .i64 0, .int .i64 0, .int .i64 0]) /\ danL m g k = none) ?_ ?_
     ·skip
      refine ⟨?_, ?_, ?_⟩
      all_goals first | exact Z2 | (simp [go_sem, *]; done) | skip
      all_goals rfl
     intro k e lm hk0 hce hcl hinv
     simp only [keepE, and_true] at hce
     obtain ⟨c2, c4, c6, c24, c25⟩ := hce
     simp only [go_sem, *, Nat.reduceBEq, Nat.reduceEqDiff, reduceIte] at c2 c4 c6 c24 c25
     simp only [keepL, and_true] at hcl
     obtain ⟨d2, d6⟩ := hcl
     simp only [go_sem, *, Nat.reduceBEq, Nat.reduceEqDiff, reduceIte] at d2 d6
     obtain ⟨h26, g4, hdn⟩ := hinv
     by_cases hlt : k < g.length
     ·have hd0 : decide ((k : Int) < ((g.length : Nat) : Int)) = true := by first | (simpa using hlt; done) | (simp only [decide_eq_true_eq]; omega)
      have hv_0 := wrap_succ hlt md
      obtain ⟨p, hp⟩ := get_some hlt
      obtain ⟨b, hb1, hb2⟩ := lis_idx HG.out hp
      have hpp := HRO.out.path p (List.mem_of_getElem? hp)
      obtain ⟨x, hxx⟩ := get_some (l := m.hands) (k := k) (by have := HRO.out.len; omega)
      have hix := fun H => has_idx HM.out.h hxx H
      have hgp : g.getD k [] = p := by simp [List.getD, hp]
      have hmx : limAt m k = x.limit := by unfold limAt; rw [hxx]
      have ob := sl_out hb1
      have hcb := (slV_is hb1).1.cells
      have htb := (slV_is hb1).1.tup
      simp only [AV.cells] at hcb
      simp only [isTuple] at htb
      have hnx : danL m g (k + 1) = match dan1 m x.limit p with | some f => some (k, f) | none => none := by
       simp only [danL, hdn, hgp, hmx]
       cases dan1 m x.limit p <;> rfl
      have hk3 := fun f => H122.out f b p hb1 hpp
      obtain ⟨gg, hng⟩ : ∃ gg, nextGen lm 9 = gg := ⟨_, rfl⟩
      unfold nextGen at hng
      have HK3 := J1 hk3
      have HNX := J1 hnx
      have HLT0 := J1 hlt
      clear hb1 hp hpp hxx hgp hmx hnx hdn hlt hk3
      repeat' (first | refine goS ?_ | (refine go2 ?_ ?_ <;> intro hh) | fail)
      refine W.loopH ((failsH m).length) [2, 4, 6, 7, 9, 24, 25, 26, 35, 36] [2, 6, 9] (fun j e1 lm1 => e1.get 37 = some (.int .i64 ↑j) /\ lm1.get 4 = some (0, [.int .i64 0, .int .i64 0, .int .i64 0, .int .i64 0]) /\ ((failsH m).take j).find? (fun f => decide (brV (highG m f) p > x.limit)) = none) ?_ ?_
      ·skip
       refine ⟨?_, ?_, ?_⟩
       all_goals first | exact Z2 | (simp [go_sem, *]; done) | skip
       all_goals rfl
      intro j e1 lm1 hk1 hce hcl hinv
      simp only [keepE, and_true] at hce
      obtain ⟨c2, c4, c6, c7, c9, c24, c25, c26, c35, c36⟩ := hce
      simp only [go_sem, *, Nat.reduceBEq, Nat.reduceEqDiff, reduceIte] at c2 c4 c6 c7 c9 c24 c25 c26 c35 c36
      simp only [keepL, and_true] at hcl
      obtain ⟨d2, d6, d9⟩ := hcl
      simp only [go_sem, *, Nat.reduceBEq, Nat.reduceEqDiff, reduceIte] at d2 d6 d9
      obtain ⟨h37, g4, hfn⟩ := hinv
      by_cases hjt : j < (failsH m).length
      ·have hd1 : decide ((j : Int) < (((failsH m).length : Nat) : Int)) = true := by first | (simpa using hjt; done) | (simp only [decide_eq_true_eq]; omega)
       have hv_1 := wrap_succ hjt (by have := H29.out; unfold maxL; omega)
       obtain ⟨f, hf⟩ := get_some hjt
       have hi1 := fun H => fks_idx HSL.out (k := j) (p := f.tell) (by rw [List.getElem?_map, hf]; rfl) H
       have lkf := HLOOK.out f (List.mem_of_getElem? hf)
       have k122 := HK3.out f
       have hbf : boundsE m f = .agg [slN (rowsE (lowG m f)), slN (rowsE (highG m f))] := by unfold boundsE lowG highG; rfl
       rw [hbf] at lkf
       have w1 := (slN_is (rowsE (lowG m f))).out
       have w2 := (slN_is (rowsE (highG m f))).out
       have hno : decide (brV (highG m f) p > x.limit) = false -> ((failsH m).take (j + 1)).find? (fun f => decide (brV (highG m f) p > x.limit)) = none := fun e => find_no hf hfn e
       have hyes : decide (brV (highG m f) p > x.limit) = true -> dan1 m x.limit p = some f := fun e => find_at hf hfn e
       obtain ⟨ga, hna⟩ : ∃ ga, nextGen lm1 11 = ga := ⟨_, rfl⟩
       unfold nextGen at hna
       have HNO := J1 hno
       have HYES := J1 hyes
       have HLT1 := J1 hjt
       simp only [fkC] at lkf
       clear hf hfn hno hyes hjt hbf
       generalize slN (rowsE (lowG m f)) = gl at *
       generalize slN (rowsE (highG m f)) = gh at *
       generalize hbr : brV (highG m f) p = br at *
       cases e : decide (br > x.limit) with
       | true =>
        have e1 : danL m g g.length = some (k, f) := dan_to (k := k + 1) (by rw [HNX.out, HYES.out e]) (by have := HLT0.out; omega)
        rw [e1]
        simp only [danE, Option.isSome_some, if_true]
        clear e1 hbr
        repeat' (first | (apply W.drawQ (id := 11) (l1 := [0, 1, 2, 3, 4, 5, 6, 7, 8, 9, 10, 11, 12, 13]) (l2 := []); kernel_rfl; kernel_rfl; kernel_rfl; exact Z4) | refine go1 ?_ | (apply U6; exact Z1; exact Z1; (exact k122); simp only [pM, pN, rR, rP]) | (refine go2 ?_ ?_ <;> intro hh) | fail)
        all_goals (simp only [resV_def (X := dX cRC) Tryz.func53, Tryz.results53]; first | exact J5 | refine J6 ?_)
        all_goals rfl
       | false =>
        clear hbr
        repeat' (first | (apply W.drawQ (id := 11) (l1 := [0, 1, 2, 3, 4, 5, 6, 7, 8, 9, 10, 11, 12, 13]) (l2 := []); kernel_rfl; kernel_rfl; kernel_rfl; exact Z4) | refine go1 ?_ | (apply U6; exact Z1; exact Z1; (exact k122); simp only [pM, pN, rR, rP]) | (refine go2 ?_ ?_ <;> intro hh) | fail)
        all_goals refine contH_mk (by first | assumption | exact HLT1.out | exact HLT0.out) J7 J8 ?_
        all_goals refine ⟨?_, ?_, ?_⟩
        all_goals first | exact Z2 | skip
        all_goals exact HNO.out e
      ·have hd1 : decide ((j : Int) < (((failsH m).length : Nat) : Int)) = false := by first | (simpa using hjt; done) | (simp only [decide_eq_false_iff_not]; omega)
       obtain rfl : j = (failsH m).length := by omega
       rw [List.take_length] at hfn
       have e1 : danL m g (k + 1) = none := by
        rw [HNX.out]
        unfold dan1
        rw [hfn]
       have HE1 := J1 e1
       clear hfn e1
       repeat' (first | refine goS ?_ | (refine go2 ?_ ?_ <;> intro hh) | fail)
       all_goals refine contH_mk J9 J7 J8 ?_
       all_goals refine ⟨?_, ?_, ?_⟩
       all_goals first | exact Z2 | skip
       all_goals exact HE1.out
     ·have hd0 : decide ((k : Int) < ((g.length : Nat) : Int)) = false := by first | (simpa using hlt; done) | (simp only [decide_eq_false_iff_not]; omega)
      obtain rfl : k = g.length := by omega
      rw [hdn]
      simp only [danE, Option.isSome_none, Bool.false_eq_true, if_false]
      clear hdn
      repeat' (first | refine goS ?_ | (refine go2 ?_ ?_ <;> intro hh) | fail)
      all_goals (simp only [resV_def (X := dX cRC) Tryz.func53, Tryz.results53]; first | exact J5 | refine J6 ?_)
      all_goals rfl
  ·cases h
 ·cases h
theorem K53 {X : Ctx} (hX : X.intr 53 = some (pureFn sp53)) {m : Hs} {ra fa oa ha dv : AV} {g : List (List Int)} (hm : HsA m ra fa oa ha) (hg : lisV dv = some g) (h : Heap) : Cl X 53 [.agg [.int .i64 m.hours, ra, fa, oa, ha], dv] h (.ret (danV m g) h none) :=
 Cl.intr hX (by
  have h1 := hm.pur
  have h2 := hm.hs
  simp only [pureFn, AV.purL, h1, lis_pur hg, Bool.and_self, if_true, sp53, h2, hg])
end Go.AM
