/-
  A part of the proof: contracts of functions.
-/
import Derived.Test.YtkpbdjpekjdhcaaGreatDoorXBK
import Derived.Test.YtkpbdjpekjdhcaaGreatDoorXBP
import Derived.Test.YtkpbdjpekjdhcaaGreatDoorXBM
import Derived.Test.YtkpbdjpekjdhcaaGreatDoorXAT
import Derived.Test.YtkpbdjpekjdhcaaGreatDoorXBE
set_option linter.unusedSectionVars false
set_option linter.unusedVariables false
set_option linter.unusedSimpArgs false
set_option maxRecDepth 100000
namespace Go.AM
open Go Go.Proofs
variable [Keep]
attribute [local irreducible] W WO WO1 WD WQ WT thenQ blockQ endR isRet retK Cl ClR
open Go.TX (Rm Fa Ha Hs)
theorem lex_drop {x y : List Int} {j : Nat} {u v : Int} (hu : x[j]? = some u) (hv : y[j]? = some v) : lexD (x.drop j) (y.drop j) = if (u != v) = true then some (decide (u < v)) else lexD (x.drop (j + 1)) (y.drop (j + 1)) := by
 obtain ⟨a1, a2⟩ := List.getElem?_eq_some_iff.1 hu
 obtain ⟨b1, b2⟩ := List.getElem?_eq_some_iff.1 hv
 rw [List.drop_eq_getElem_cons a1, List.drop_eq_getElem_cons b1, a2, b2, lexD]
theorem lex_end {x y : List Int} {j : Nat} (h : ¬ (j < x.length /\ j < y.length)) : lexD (x.drop j) (y.drop j) = none := by
 by_cases e : j < x.length
 ·have e2 : y.drop j = [] := List.drop_eq_nil_of_le (by omega)
  rw [e2]
  cases x.drop j <;> rfl
 ·have e2 : x.drop j = [] := List.drop_eq_nil_of_le (by omega)
  rw [e2]
  rfl
theorem bef_drop {a b : List (List Int)} {k : Nat} {x y : List Int} (hx : a[k]? = some x) (hy : b[k]? = some y) : befG (a.drop k) (b.drop k) = (lexD x y).getD (befG (a.drop (k + 1)) (b.drop (k + 1))) := by
 obtain ⟨a1, a2⟩ := List.getElem?_eq_some_iff.1 hx
 obtain ⟨b1, b2⟩ := List.getElem?_eq_some_iff.1 hy
 rw [List.drop_eq_getElem_cons a1, List.drop_eq_getElem_cons b1, a2, b2, befG]
theorem bef_end {a b : List (List Int)} {k : Nat} (h : ¬ (k < a.length /\ k < b.length)) : befG (a.drop k) (b.drop k) = false := by
 by_cases e : k < a.length
 ·have e2 : b.drop k = [] := List.drop_eq_nil_of_le (by omega)
  rw [e2]
  cases a.drop k <;> rfl
 ·have e2 : a.drop k = [] := List.drop_eq_nil_of_le (by omega)
  rw [e2]
  rfl
section
variable {c : Itr}
set_option maxHeartbeats 8000000 in
theorem C59 (h59 : c 59 = none) (a b : AV) (ga gb : List (List Int)) (ha : lisV a = some ga) (hb : lisV b = some gb) (h : Heap) : Cl (dX c) 59 [a, b] h (.ret (.bool (befG ga gb)) h none) := by
 refine ClR.cl ?_
 have la := lis_len ha
 have lb := lis_len hb
 have oa := lis_out ha
 have ob := lis_out hb
 have ma := lis_max ha
 have HA := J1 ha
 have HB := J1 hb
 clear ha hb
 refine ClR.walk (c := _) h59 Tryz.func59 rfl (by kernel_rfl) rfl (fun e => by cases e) ?_
 try simp only [entryEnv, Nat.reduceAdd, List.nil_append, List.cons_append, emptyHp]
 repeat' (first | refine goS ?_ | (refine go2 ?_ ?_ <;> intro hh) | fail)
 refine W.loopH (min ga.length gb.length) [0, 1] [] (fun k e lm => e.get 5 = some (.int .i64 ↑k) /\ befG ga gb = befG (ga.drop k) (gb.drop k)) ?_ ?_
 ·skip
  refine ⟨?_, ?_⟩
  all_goals first | exact Z2 | (simp [go_sem, *]; done) | skip
  all_goals rfl
 intro k e lm hk0 hce hcl hinv
 simp only [keepE, and_true] at hce
 obtain ⟨c0, c1⟩ := hce
 simp only [go_sem, *, Nat.reduceBEq, Nat.reduceEqDiff, reduceIte] at c0 c1
 clear hcl
 obtain ⟨h5, hq⟩ := hinv
 by_cases hlt : k < min ga.length gb.length
 ·have hd0 : decide ((k : Int) < ((min ga.length gb.length : Nat) : Int)) = true := by first | (simpa using hlt; done) | (simp only [decide_eq_true_eq]; omega)
  have hv_0 := wrap_succ hlt (by omega)
  have d1 : decide ((k : Int) < (ga.length : Int)) = true := by simp only [decide_eq_true_eq]; omega
  have d2 : decide ((k : Int) < (gb.length : Int)) = true := by simp only [decide_eq_true_eq]; omega
  obtain ⟨x, hx⟩ := get_some (l := ga) (k := k) (by omega)
  obtain ⟨y, hy⟩ := get_some (l := gb) (k := k) (by omega)
  obtain ⟨xa, hx1, hx2⟩ := lis_idx HA.out hx
  obtain ⟨ya, hy1, hy2⟩ := lis_idx HB.out hy
  have lx := sl_len hx1
  have ly := sl_len hy1
  have ox := sl_out hx1
  have oy := sl_out hy1
  have hbd := bef_drop hx hy
  rw [hbd] at hq
  have mx := sl_max hx1
  have HQ := J1 hq
  have HX1 := J1 hx1
  have HY1 := J1 hy1
  have HLT0 := J1 hlt
  clear hx hy hx1 hy1 hbd hq hlt
  repeat' (first | refine goS ?_ | (refine go2 ?_ ?_ <;> intro hh) | fail)
  refine W.loopH (min x.length y.length) [0, 1, 5] [] (fun j e1 lm1 => e1.get 6 = some (.int .i64 ↑j) /\ lexD x y = lexD (x.drop j) (y.drop j)) ?_ ?_
  ·skip
   refine ⟨?_, ?_⟩
   all_goals first | exact Z2 | (simp [go_sem, *]; done) | skip
   all_goals rfl
  intro j e1 lm1 hk1 hce hcl hinv
  simp only [keepE, and_true] at hce
  obtain ⟨c0, c1, c5⟩ := hce
  simp only [go_sem, *, Nat.reduceBEq, Nat.reduceEqDiff, reduceIte] at c0 c1 c5
  clear hcl
  obtain ⟨h6, hq⟩ := hinv
  by_cases hjt : j < min x.length y.length
  ·have hd1 : decide ((j : Int) < ((min x.length y.length : Nat) : Int)) = true := by first | (simpa using hjt; done) | (simp only [decide_eq_true_eq]; omega)
   have hv_1 := wrap_succ hjt (by omega)
   have d3 : decide ((j : Int) < (x.length : Int)) = true := by simp only [decide_eq_true_eq]; omega
   have d4 : decide ((j : Int) < (y.length : Int)) = true := by simp only [decide_eq_true_eq]; omega
   obtain ⟨u, hu⟩ := get_some (l := x) (k := j) (by omega)
   obtain ⟨v, hv⟩ := get_some (l := y) (k := j) (by omega)
   have hix1 := fun H => ints_idx HX1.out hu H
   have hix2 := fun H => ints_idx HY1.out hv H
   rw [lex_drop hu hv] at hq
   have HLT1 := J1 hjt
   have HQ2 := J1 hq
   clear hu hv hq hjt
   cases e : (u != v) with
   | true =>
    have hr : befG ga gb = decide (u < v) := by
     have h1 := HQ.out
     have h2 := HQ2.out
     rw [e, if_pos rfl] at h2
     rw [h2] at h1
     exact h1
    rw [hr]
    clear hr
    repeat' (first | (apply W.drawQ (id := 7) (l1 := [0, 1, 2, 3, 4, 5, 6, 7, 8, 9, 10, 11, 12, 13, 14]) (l2 := []); kernel_rfl; kernel_rfl; kernel_rfl; exact Z4) | (apply W.drawQ (id := 8) (l1 := [0, 1, 2, 3, 4, 5, 6, 7, 8, 9, 10, 11, 12, 13, 14, 15]) (l2 := []); kernel_rfl; kernel_rfl; kernel_rfl; exact Z4) | refine go1 ?_ | (refine go2 ?_ ?_ <;> intro hh) | fail)
    all_goals (simp only [resV_def (X := dX c) Tryz.func59, Tryz.results59]; first | exact J5 | refine J6 ?_)
    all_goals rfl
   | false =>
    repeat' (first | (apply W.drawQ (id := 7) (l1 := [0, 1, 2, 3, 4, 5, 6, 7, 8, 9, 10, 11, 12, 13, 14]) (l2 := []); kernel_rfl; kernel_rfl; kernel_rfl; exact Z4) | (apply W.drawQ (id := 8) (l1 := [0, 1, 2, 3, 4, 5, 6, 7, 8, 9, 10, 11, 12, 13, 14, 15]) (l2 := []); kernel_rfl; kernel_rfl; kernel_rfl; exact Z4) | refine go1 ?_ | (refine go2 ?_ ?_ <;> intro hh) | fail)
    all_goals refine contH_mk (by first | assumption | exact HLT1.out | exact HLT0.out) J7 J8 ?_
    all_goals refine ⟨?_, ?_⟩
    all_goals first | exact Z2 | skip
    all_goals (have h2 := HQ2.out; rw [e] at h2; simpa using h2)
  ·have hd1 : decide ((j : Int) < ((min x.length y.length : Nat) : Int)) = false := by first | (simpa using hjt; done) | (simp only [decide_eq_false_iff_not]; omega)
   obtain rfl : j = min x.length y.length := by omega
   have d3 : (decide (((min x.length y.length : Nat) : Int) < (x.length : Int)) && decide (((min x.length y.length : Nat) : Int) < (y.length : Int))) = false := by
    rw [Bool.and_eq_false_iff]
    simp only [decide_eq_false_iff_not]
    omega
   have hqq : lexD x y = none := by rw [hq]; exact lex_end (by omega)
   have HQ2 := J1 hqq
   clear hq hqq hjt
   generalize min x.length y.length = mn at *
   cases d4 : decide ((mn : Int) < (x.length : Int)) with
   | true =>
    rw [d4] at d3
    simp only [Bool.true_and] at d3
    repeat' (first | refine goS ?_ | (refine go2 ?_ ?_ <;> intro hh) | fail)
    all_goals refine contH_mk J9 J7 J8 ?_
    all_goals refine ⟨?_, ?_⟩
    all_goals first | exact Z2 | skip
    all_goals (have h1 := HQ.out; rw [HQ2.out] at h1; exact h1)
   | false =>
    clear d3
    repeat' (first | refine goS ?_ | (refine go2 ?_ ?_ <;> intro hh) | fail)
    all_goals refine contH_mk J9 J7 J8 ?_
    all_goals refine ⟨?_, ?_⟩
    all_goals first | exact Z2 | skip
    all_goals (have h1 := HQ.out; rw [HQ2.out] at h1; exact h1)
 ·have hd0 : decide ((k : Int) < ((min ga.length gb.length : Nat) : Int)) = false := by first | (simpa using hlt; done) | (simp only [decide_eq_false_iff_not]; omega)
  obtain rfl : k = min ga.length gb.length := by omega
  have d3 : (decide (((min ga.length gb.length : Nat) : Int) < (ga.length : Int)) && decide (((min ga.length gb.length : Nat) : Int) < (gb.length : Int))) = false := by
   rw [Bool.and_eq_false_iff]
   simp only [decide_eq_false_iff_not]
   omega
  have hqq : befG ga gb = false := by rw [hq]; exact bef_end (by omega)
  rw [hqq]
  clear hq hqq hlt
  generalize min ga.length gb.length = mn at *
  cases d4 : decide ((mn : Int) < (ga.length : Int)) with
  | true =>
   rw [d4] at d3
   simp only [Bool.true_and] at d3
   repeat' (first | refine goS ?_ | (refine go2 ?_ ?_ <;> intro hh) | fail)
   all_goals (simp only [resV_def (X := dX c) Tryz.func59, Tryz.results59]; first | exact J5 | refine J6 ?_)
   all_goals rfl
  | false =>
   clear d3
   repeat' (first | refine goS ?_ | (refine go2 ?_ ?_ <;> intro hh) | fail)
   all_goals (simp only [resV_def (X := dX c) Tryz.func59, Tryz.results59]; first | exact J5 | refine J6 ?_)
   all_goals rfl
end
def sp65 : List AV -> Option AV
 | [pa, da] => match slV intC pa, slV intC da with
  | some p, some d => some (.bool (doesB p d))
  | _, _ => none
 | _ => none
attribute [local irreducible] houseB pathB airS failsH ordP dutyP dutyR ordM dutC befG doesB
noncomputable def c14 : Itr
 | 21 => some (pureFn sp21S)
 | 22 => some (pureFn sp22)
 | 24 => some (flatFnD sp82)
 | 45 => some (newQ sp45)
 | 46 => some (newQ sp46)
 | 47 => some (flatFnD sp47)
 | 60 => some (pureFn sp60)
 | 61 => some (pureFn sp61)
 | 65 => some (flatFnD sp65)
 | 84 => some (pureFn sp84)
 | 85 => some (pureFn sp85)
 | _ => none
end Go.AM
namespace Go.AM
open Go Go.Proofs
variable [Keep]
attribute [local irreducible] W WO WO1 WD WQ WT thenQ blockQ endR isRet retK Cl ClR
open Go.TX (Rm Fa Ha Hs)
attribute [local irreducible] houseB pathB airS failsH rosB rosR stafB keptR danL bstO costR bzC befG fairB
noncomputable def c12 : Itr
 | 21 => some (pureFn sp21S)
 | 22 => some (pureFn sp22)
 | 24 => some (flatFnD sp82)
 | 27 => some (newQ sp27)
 | 30 => some (pureFn sp30)
 | 52 => some (pureFn sp52)
 | 53 => some (pureFn sp53)
 | 84 => some (pureFn sp84)
 | 85 => some (pureFn sp85)
 | _ => none
theorem c12_sound (hT : TabK Tryz.prog) : Sound (dX c12) := dX_sound (fun f g h => by
 unfold c12 at h
 split at h
 ·cases h; exact F21S
 ·cases h; exact F22 hT
 ·cases h; exact F24D
 ·cases h; exact F27
 ·cases h; exact F30
 ·cases h; exact F52
 ·cases h; exact F53
 ·cases h; exact F84
 ·cases h; exact F85
 ·cases h)
theorem hc12 : CxR c12 := ⟨rfl, rfl, rfl, rfl, rfl, rfl, rfl, rfl⟩
theorem K30p {X : Ctx} (hX : X.intr 30 = some (pureFn sp30)) {a : AV} {g : List (List Int)} (ha : lisV a = some g) (h : Heap) : Cl X 30 [a] h (.ret (.int .i64 ((costR bzC g : Nat) : Int)) h none) :=
 Cl.intr hX (by simp only [pureFn, AV.purL, lis_pur ha, Bool.and_self, if_true, sp30, ha])
theorem lsI_ls (x : List (List Int)) : LsI (slN (lsE x)) x := by
 refine ⟨lsE x, slN_is _, by unfold lsE; simp, fun k l hk => ⟨slN (intsE l), ?_, slN_is _⟩⟩
 unfold lsE
 rw [List.getElem?_map, hk]
 rfl
theorem ros_sized {m : Hs} (ho : HOk m) {g : List (List Int)} (h : rosB m g = true) : sizedL g = true := by
 obtain ⟨h1, h2⟩ := ros_len ho h
 unfold sizedL
 rw [Bool.and_eq_true, List.all_eq_true]
 refine ⟨fun l hl => ?_, by simp only [decide_eq_true_eq]; omega⟩
 have := h2 l (List.mem_of_mem_take hl)
 simp only [decide_eq_true_eq]
 omega
theorem staf_dan {m : Hs} (ho : HOk m) {g : List (List Int)} (h : rosB m g = true) : stafB m g = ((danL m g g.length).isNone && fairB m g) := by
 rw [staf_kept ho (ros_ok h).path]
 unfold keptR
 rfl
set_option maxHeartbeats 32000000 in
theorem T12 (ra fa oa ha dv : AV) (m : Hs) (g : List (List Int)) (v : HsI m ra fa oa ha) (q : LsI dv g) : ClR (dX c12) 12 [.agg [.int .i64 m.hours, ra, fa, oa, ha], dv] emptyHp (isRet (.bool true)) := by
 have o1 := v.r.out
 have o2 := v.f.out
 have o3 := v.o.out
 have o4 := v.h.out
 have od := q.out
 have k22 : ∀ h, Cl (dX c12) 22 [] h (.ret (.bool true) h none) := fun h => K22 rfl h
 have k21 := fun h => K21I (X := dX c12) rfl v h
 have k51 := fun h => C51 (c := c12) rfl dv g q h
 have q0 : ((0 : Int) == 0) = true := rfl
 have q0n : (((0 : Nat) : Int) == 0) = true := rfl
 have q5 : ((5 : Int) == 5) = true := rfl
 have q05 : ((0 : Int) == 5) = false := rfl
 have n0 : ((0 : Int) != 0) = false := rfl
 have n5 : ((5 : Int) != 0) = true := rfl
 have n55 : ((5 : Int) != 5) = false := rfl
 have tt : (true && true) = true := rfl
 have hbn := bool_ne
 have b1 : (true != true) = false := rfl
 have b2 : (false != false) = false := rfl
 cases gs : shortB m with
 | false =>
  rw [gs] at k21
  clear v q gs
  refine ClR.walk (c := _) rfl Tryz.func12 rfl (by kernel_rfl) rfl isRet_fail ?_
  try simp only [entryEnv, Nat.reduceAdd, List.nil_append, List.cons_append, emptyHp]
  repeat' (first | refine goS ?_ | (apply U6; exact Z1; exact Z1; (focus (first | exact k21 _ | exact k22 _)); simp only [pM, pN, rR, rP]) | (refine go2 ?_ ?_ <;> intro hh) | fail)
  all_goals (simp only [resV_def (X := dX c12) Tryz.func12, Tryz.results12]; first | exact J5 | refine J6 ?_)
  all_goals rfl
 | true =>
  rw [gs] at k21
  cases gl : sizedL g with
  | false =>
   rw [gl] at k51
   clear v q gs gl
   refine ClR.walk (c := _) rfl Tryz.func12 rfl (by kernel_rfl) rfl isRet_fail ?_
   try simp only [entryEnv, Nat.reduceAdd, List.nil_append, List.cons_append, emptyHp]
   repeat' (first | refine goS ?_ | (apply U6; exact Z1; exact Z1; (focus (first | exact k21 _ | exact k22 _ | exact k51 _)); simp only [pM, pN, rR, rP]) | (refine go2 ?_ ?_ <;> intro hh) | fail)
   all_goals (simp only [resV_def (X := dX c12) Tryz.func12, Tryz.results12]; first | exact J5 | refine J6 ?_)
   all_goals rfl
  | true =>
   rw [gl] at k51
   have hA := v.short gs
   have hg := q.sized gl
   have k24 := fun h => K24p (X := dX c12) rfl hA h
   have k52 := fun h => K52 (X := dX c12) rfl hA hg h
   have k53 := fun h => K53 (X := dX c12) rfl hA hg h
   have k27 := fun h => K27 (X := dX c12) rfl hA h
   have k30 := fun h => K30p (X := dX c12) rfl hg h
   cases hb : houseB m with
   | false =>
    rw [hb] at k24
    clear v q gs gl hA hg hb
    refine ClR.walk (c := _) rfl Tryz.func12 rfl (by kernel_rfl) rfl isRet_fail ?_
    try simp only [entryEnv, Nat.reduceAdd, List.nil_append, List.cons_append, emptyHp]
    repeat' (first | refine goS ?_ | (apply U6; exact Z1; exact Z1; (focus (first | exact k21 _ | exact k22 _ | exact k51 _ | exact k24 _)); simp only [pM, pN, rR, rP]) | (refine go2 ?_ ?_ <;> intro hh) | fail)
    all_goals (simp only [resV_def (X := dX c12) Tryz.func12, Tryz.results12]; first | exact J5 | refine J6 ?_)
    all_goals rfl
   | true =>
    rw [hb] at k24
    have ho := house_ok hb
    have k54 := fun h => C54 hc12 rfl rfl m ra fa oa ha dv g hA hg ho h
    rw [<- ros_same ho] at k54
    cases hr : rosB m g with
    | false =>
     rw [hr] at k54
     clear v q gs gl hA hg hb hr ho
     refine ClR.walk (c := _) rfl Tryz.func12 rfl (by kernel_rfl) rfl isRet_fail ?_
     try simp only [entryEnv, Nat.reduceAdd, List.nil_append, List.cons_append, emptyHp]
     repeat' (first | refine goS ?_ | (apply U6; exact Z1; exact Z1; (focus (first | exact k21 _ | exact k22 _ | exact k51 _ | exact k24 _ | exact k54 _)); simp only [pM, pN, rR, rP]) | (refine go2 ?_ ?_ <;> intro hh) | fail)
     all_goals (simp only [resV_def (X := dX c12) Tryz.func12, Tryz.results12]; first | exact J5 | refine J6 ?_)
     all_goals rfl
    | true =>
     rw [hr] at k54
     have hro := ros_ok hr
     obtain ⟨nn, hnn, hnt, hn1, hn4, hol⟩ := ho_parts ho
     have k58 := fun h => C58 (c := c12) rfl rfl m ra fa oa ha dv g hA hg hro.len h
     have e1 : stafV m g = .tuple [.bool (stafB m g), .int .i64 0] := by unfold stafV; rw [hb, hr]; rfl
     have e2 : ∃ d1 d2 d3 d4, danV m g = .tuple [.agg [.int .i64 d1, .int .i64 d2, .int .i64 d3, .int .i64 d4], .int .i64 (if (danL m g g.length).isNone = true then 5 else 0)] := by
      unfold danV
      rw [hb, hr]
      cases danL m g g.length with
      | none => exact ⟨_, _, _, _, rfl⟩
      | some y => exact ⟨_, _, _, _, rfl⟩
     obtain ⟨d1, d2, d3, d4, e2⟩ := e2
     rw [e1] at k52
     rw [e2] at k53
     have hsd := staf_dan ho hr
     have hmg := ros_mem ho hnn g
     rcases bst_ros ho hnn with ⟨hbn, hall⟩ | ⟨x, l1, l2, hbn, hall, hx1, hx2⟩
     ·have e3 : rosV m = .tuple [.nilslice, .int .i64 0, .int .i64 5] := by unfold rosV; rw [hb, hnt, hbn]; rfl
      have hs0 : stafB m g = false := by
       cases hs : stafB m g with
       | false => rfl
       | true =>
        have := hmg.2 ⟨hr, hs⟩
        rw [hall] at this
        cases this
      rw [e3] at k27
      rw [hs0] at k52 hsd
      clear v q gs gl hA hg hb e1 e2 e3 hr ho hro hnn hnt hn1 hn4 hol hmg hbn hall hs0
      cases hdn : (danL m g g.length).isNone with
      | true =>
       rw [hdn, Bool.true_and] at hsd
       rw [hdn] at k53
       rw [<- hsd] at k58
       simp only [if_true] at k53
       clear hsd hdn
       refine ClR.walk (c := _) rfl Tryz.func12 rfl (by kernel_rfl) rfl isRet_fail ?_
       try simp only [entryEnv, Nat.reduceAdd, List.nil_append, List.cons_append, emptyHp]
       repeat' (first | refine goS ?_ | (apply U6; exact Z1; exact Z1; (focus (first | exact k21 _ | exact k22 _ | exact k51 _ | exact k24 _ | exact k54 _ | exact k27 _ | exact k52 _ | exact k53 _ | exact k58 _)); simp only [pM, pN, rR, rP]) | (refine go2 ?_ ?_ <;> intro hh) | fail)
       all_goals (simp only [resV_def (X := dX c12) Tryz.func12, Tryz.results12]; first | exact J5 | refine J6 ?_)
       all_goals rfl
      | false =>
       rw [hdn] at k53
       simp only [Bool.false_eq_true, if_false] at k53
       clear hsd hdn k58
       refine ClR.walk (c := _) rfl Tryz.func12 rfl (by kernel_rfl) rfl isRet_fail ?_
       try simp only [entryEnv, Nat.reduceAdd, List.nil_append, List.cons_append, emptyHp]
       repeat' (first | refine goS ?_ | (apply U6; exact Z1; exact Z1; (focus (first | exact k21 _ | exact k22 _ | exact k51 _ | exact k24 _ | exact k54 _ | exact k27 _ | exact k52 _ | exact k53 _)); simp only [pM, pN, rR, rP]) | (refine go2 ?_ ?_ <;> intro hh) | fail)
       all_goals (simp only [resV_def (X := dX c12) Tryz.func12, Tryz.results12]; first | exact J5 | refine J6 ?_)
       all_goals rfl
     ·have e3 : rosV m = .tuple [slN (lsE x), .int .i64 ((costR bzC x : Nat) : Int), .int .i64 0] := by unfold rosV; rw [hb, hnt, hbn]; rfl
      obtain ⟨hxr, hxs⟩ := (ros_mem ho hnn x).1 (by rw [hall]; simp)
      have hxz := ros_sized ho hxr
      have qx := lsI_ls x
      have hgx := qx.sized hxz
      have k51x := fun h => C51 (c := c12) rfl (slN (lsE x)) x qx h
      have k54x := fun h => C54 hc12 rfl rfl m ra fa oa ha (slN (lsE x)) x hA hgx ho h
      have k30x := fun h => K30p (X := dX c12) rfl hgx h
      have k52x := fun h => K52 (X := dX c12) rfl hA hgx h
      have e4 : stafV m x = .tuple [.bool true, .int .i64 0] := by unfold stafV; rw [hb, hxr, hxs]; rfl
      have k59 := fun h => C59 (c := c12) rfl dv (slN (lsE x)) g x hg hgx h
      rw [<- ros_same ho, hxr] at k54x
      rw [hxz] at k51x
      rw [e4] at k52x
      rw [e3] at k27
      have osl := qx.out
      have csl := (slN_is (lsE x)).cells
      have tsl := (slN_is (lsE x)).tup
      have hriv : stafB m g = true -> costR bzC x < costR bzC g \/ (costR bzC g = costR bzC x /\ befG g x = false) := fun hs => rival (allP_strict _ _) hall hx1 hx2 (hmg.2 ⟨hr, hs⟩)
      simp only [AV.cells] at csl
      simp only [isTuple] at tsl
      clear v q gs gl hA hg hb e1 e2 e3 hr ho hro hnn hnt hn1 hn4 hol hmg hbn hall hx1 hx2 qx hxr hxs hxz hgx e4
      generalize slN (lsE x) = sl at *
      generalize costR bzC x = cx at *
      generalize costR bzC g = cg at *
      generalize befG g x = bf at *
      have nx : ((cx : Int) != (cx : Int)) = false := by simp
      cases hdn : (danL m g g.length).isNone with
      | true =>
       rw [hdn, Bool.true_and] at hsd
       rw [hdn] at k53
       rw [<- hsd] at k58
       simp only [if_true] at k53
       cases hs : stafB m g with
       | true =>
        rw [hs] at k52 k58
        rcases hriv hs with hlt | ⟨heq, hbf⟩
        ·have g1 : decide ((cg : Int) > (cx : Int)) = true := by simp only [decide_eq_true_eq]; omega
         clear hsd hdn hs hriv hlt
         refine ClR.walk (c := _) rfl Tryz.func12 rfl (by kernel_rfl) rfl isRet_fail ?_
         try simp only [entryEnv, Nat.reduceAdd, List.nil_append, List.cons_append, emptyHp]
         repeat' (first | (refine WO1.gund rfl rfl ?_ ?_; exact Z2; simp only [pM, pN, rR, rP]) | refine go1 ?_ | (apply U6; exact Z1; exact Z1; (focus (first | exact k21 _ | exact k22 _ | exact k51 _ | exact k24 _ | exact k54 _ | exact k27 _ | exact k52 _ | exact k53 _ | exact k58 _ | exact k51x _ | exact k54x _ | exact k30x _ | exact k52x _ | exact k30 _)); simp only [pM, pN, rR, rP]) | (refine go2 ?_ ?_ <;> intro hh) | fail)
         all_goals (simp only [resV_def (X := dX c12) Tryz.func12, Tryz.results12]; first | exact J5 | refine J6 ?_)
         all_goals rfl
        ·rw [hbf] at k59
         subst heq
         have g1 : decide ((cg : Int) > (cg : Int)) = false := by simp
         have g2 : ((cg : Int) == (cg : Int)) = true := by simp
         clear hsd hdn hs hriv hbf
         refine ClR.walk (c := _) rfl Tryz.func12 rfl (by kernel_rfl) rfl isRet_fail ?_
         try simp only [entryEnv, Nat.reduceAdd, List.nil_append, List.cons_append, emptyHp]
         repeat' (first | refine goS ?_ | (apply U6; exact Z1; exact Z1; (focus (first | exact k21 _ | exact k22 _ | exact k51 _ | exact k24 _ | exact k54 _ | exact k27 _ | exact k52 _ | exact k53 _ | exact k58 _ | exact k51x _ | exact k54x _ | exact k30x _ | exact k52x _ | exact k30 _ | exact k59 _)); simp only [pM, pN, rR, rP]) | (refine go2 ?_ ?_ <;> intro hh) | fail)
         all_goals (simp only [resV_def (X := dX c12) Tryz.func12, Tryz.results12]; first | exact J5 | refine J6 ?_)
         all_goals rfl
       | false =>
        rw [hs] at k52 k58
        clear hsd hdn hs hriv
        refine ClR.walk (c := _) rfl Tryz.func12 rfl (by kernel_rfl) rfl isRet_fail ?_
        try simp only [entryEnv, Nat.reduceAdd, List.nil_append, List.cons_append, emptyHp]
        repeat' (first | (refine WO1.gund rfl rfl ?_ ?_; exact Z2; simp only [pM, pN, rR, rP]) | refine go1 ?_ | (apply U6; exact Z1; exact Z1; (focus (first | exact k21 _ | exact k22 _ | exact k51 _ | exact k24 _ | exact k54 _ | exact k27 _ | exact k52 _ | exact k53 _ | exact k58 _ | exact k51x _ | exact k54x _ | exact k30x _ | exact k52x _ | exact k30 _)); simp only [pM, pN, rR, rP]) | (refine go2 ?_ ?_ <;> intro hh) | fail)
        all_goals (simp only [resV_def (X := dX c12) Tryz.func12, Tryz.results12]; first | exact J5 | refine J6 ?_)
        all_goals rfl
      | false =>
       rw [hdn, Bool.false_and] at hsd
       rw [hdn] at k53
       rw [hsd] at k52
       simp only [Bool.false_eq_true, if_false] at k53
       clear hsd hdn hriv k58
       refine ClR.walk (c := _) rfl Tryz.func12 rfl (by kernel_rfl) rfl isRet_fail ?_
       try simp only [entryEnv, Nat.reduceAdd, List.nil_append, List.cons_append, emptyHp]
       repeat' (first | (refine WO1.gund rfl rfl ?_ ?_; exact Z2; simp only [pM, pN, rR, rP]) | refine go1 ?_ | (apply U6; exact Z1; exact Z1; (focus (first | exact k21 _ | exact k22 _ | exact k51 _ | exact k24 _ | exact k54 _ | exact k27 _ | exact k52 _ | exact k53 _ | exact k51x _ | exact k54x _ | exact k30x _ | exact k52x _ | exact k30 _)); simp only [pM, pN, rR, rP]) | (refine go2 ?_ ?_ <;> intro hh) | fail)
       all_goals (simp only [resV_def (X := dX c12) Tryz.func12, Tryz.results12]; first | exact J5 | refine J6 ?_)
       all_goals rfl
end Go.AM
