/-
  A part of the proof: contracts of functions.
-/
import Derived.Test.YtkpbdjpekjdhcaaGreatDoorTAZ
import Derived.Test.YtkpbdjpekjdhcaaGreatDoorTAM
import Derived.Test.YtkpbdjpekjdhcaaGreatDoorTAX
import Derived.Test.YtkpbdjpekjdhcaaGreatDoorTAU
set_option linter.unusedSectionVars false
set_option linter.unusedVariables false
set_option linter.unusedSimpArgs false
set_option maxRecDepth 100000
namespace Go.AM
open Go Go.Proofs
variable [Keep]
attribute [local irreducible] W WO WO1 WD WQ WT thenQ blockQ endR isRet retK Cl ClR
open Go.TX (Rm Fa Ha Hs)
attribute [local irreducible] runsB madeR madeF drawnP sumW rowF nowF roomR
theorem C175 (c : Itr) (hc : c 175 = none) (hc1 : c 176 = some (pureFn sp176)) (n : Int) (id : Nat) (p : Rm) (h : Heap) (hg : h.get id = some (.var [.int .i64 p.lo, .int .i64 p.hi, .int .i64 p.mke, .int .i64 p.wt, .int .i64 p.stt])) :
  Cl (dX c) 175 (([] ++ [intC.enc n]) ++ [.ptr id 0]) h (.ret (.bool (!inB n p.lo p.hi)) h none) := by
 refine ClR.cl ?_
 have k176 := fun h => K176 (X := dX c) hc1 n p.lo p.hi h
 simp only [intC]
 refine ClR.walk (c := _) hc Tryz.func175 rfl (by kernel_rfl) rfl (fun e => by cases e) ?_
 try simp only [entryEnv, Nat.reduceAdd, List.nil_append, List.cons_append, emptyHp]
 repeat' (first | refine goS ?_ | (apply U6; exact Z1; exact Z1; (focus (simp only [List.nil_append, List.append_nil]; first | exact k176 _)); simp only [pM, pN, rR, rP]) | refine go2 (fun hh => ?_) (fun hh => ?_) | fail)
 all_goals (simp only [resV_def (X := dX c) Tryz.func175, Tryz.results175]; first | exact J5 | refine J6 ?_)
 all_goals rfl
def sp174 : List AV → Option AV
 | [b, x] => match slV intC b, rmC.dec x with
  | some r, some p => some (.bool (r.all fun n => inB n p.lo p.hi))
  | _, _ => none
 | _ => none
theorem p174 : ∀ args v, sp174 args = some v → v.pur = true := by
 intro args v h
 unfold sp174 at h
 split at h
 ·split at h
  ·cases h; rfl
  ·cases h
 ·cases h
theorem any_not {α : Type} (p : α → Bool) (l : List α) : (!(l.any fun x => !p x)) = l.all p := by
 induction l with
 | nil => rfl
 | cons a l ih => simp only [List.any_cons, List.all_cons, Bool.not_or, Bool.not_not, ih]
set_option maxHeartbeats 1000000 in
theorem F174 : IntrFn Tryz.prog 174 (pureFn sp174) := by
 refine pure_fn (X := dX cN1) cN1_sound p174 ?_
 intro args v h
 unfold sp174 at h
 split at h
 ·rename_i b x
  split at h
  ·rename_i r p hb hp
   have h := Option.some.inj h
   subst h
   obtain rfl := rmC.ed _ _ hp
   have ob := sl_out hb
   have hcl : ∀ H : Heap, H.get 0 = some (.var [.int .i64 p.lo, .int .i64 p.hi, .int .i64 p.mke, .int .i64 p.wt, .int .i64 p.stt]) → Cl (dX cN1) 92 [b, .func (.func 175) [] [.ptr 0 0]] H (.ret (.bool (r.any fun n => !inB n p.lo p.hi)) H none) := fun H e => C92 cN1 rfl rfl _ _ hb 175 [] [.ptr 0 0] _ H (fun n _ => C175 cN1 rfl rfl n 0 p H e)
   have hcl := hcl ⟨1, Mp.nil.set 0 (.var [.int .i64 p.lo, .int .i64 p.hi, .int .i64 p.mke, .int .i64 p.wt, .int .i64 p.stt])⟩ (by simp [hp_get])
   rw [← any_not]
   clear hb hp
   generalize (r.any fun n => !inB n p.lo p.hi) = ba at *
   simp only [rmC]
   refine ClR.walk (c := _) rfl Tryz.func174 rfl (by kernel_rfl) rfl isRet_fail ?_
   try simp only [entryEnv, Nat.reduceAdd, List.nil_append, List.cons_append, emptyHp]
   repeat' (first | (apply U6; exact Z1; exact Z1; (focus (exact hcl)); simp only [pM, pN, rR, rP]) | refine go1 ?_ | refine go2 (fun hh => ?_) (fun hh => ?_) | fail)
   all_goals (simp only [resV_def (X := dX cN1) Tryz.func174, Tryz.results174]; first | exact J5 | refine J6 ?_)
   all_goals rfl
  ·cases h
 ·cases h
theorem K174 {X : Ctx} (hX : X.intr 174 = some (pureFn sp174)) {b : AV} {r : List Int} (hb : slV intC b = some r) (p : Rm) (h : Heap) : Cl X 174 [b, rmC.enc p] h (.ret (.bool (r.all fun n => inB n p.lo p.hi)) h none) :=
 Cl.intr hX (by simp only [pureFn, AV.purL, sl_pur hb, rmC.pur, Bool.and_self, if_true, sp174, hb, rmC.de])
section
variable {c : Itr}
set_option maxHeartbeats 4000000 in
theorem C173 (h173 : c 173 = none) (h174 : c 174 = some (pureFn sp174)) (m : Hs) (ra fa oa ha dv : AV) (g : List (List Int)) (hm : HsA m ra fa oa ha) (hg : lisV dv = some g) (h : Heap) :
  Cl (dX c) 173 [dv, ra, .func (.func 174) [] []] h (.ret (.bool (((g.length : Int) == m.rooms.length) && fitsB m g)) h none) := by
 refine ClR.cl ?_
 have l1 := sl_len hm.r
 have o1 := sl_out hm.r
 have ld := lis_len hg
 have od := lis_out hg
 have md := lis_max hg
 have HG := Lib.hid hg
 have H1 := Lib.hid hm.r
 clear hm hg
 cases hq : ((g.length : Int) == m.rooms.length) with
 | false =>
  have hq' : ((g.length : Int) != m.rooms.length) = true := by rw [bne, hq]; rfl
  simp only [Bool.false_and]
  refine ClR.walk (c := _) h173 Tryz.func173 rfl (by kernel_rfl) rfl (fun e => by cases e) ?_
  try simp only [entryEnv, Nat.reduceAdd, List.nil_append, List.cons_append, emptyHp]
  repeat' (first | refine goS ?_ | refine go2 (fun hh => ?_) (fun hh => ?_) | fail)
  all_goals (simp only [resV_def (X := dX c) Tryz.func173, Tryz.results173]; first | exact J5 | refine J6 ?_)
  all_goals rfl
 | true =>
  have hq' : ((g.length : Int) != m.rooms.length) = false := by rw [bne, hq]; rfl
  have hgl : g.length = m.rooms.length := by simp only [beq_iff_eq] at hq; omega
  have HGL := Lib.hid hgl
  simp only [Bool.true_and]
  clear hgl
  refine ClR.walk (c := _) h173 Tryz.func173 rfl (by kernel_rfl) rfl (fun e => by cases e) ?_
  try simp only [entryEnv, Nat.reduceAdd, List.nil_append, List.cons_append, emptyHp]
  repeat' (first | refine goS ?_ | refine go2 (fun hh => ?_) (fun hh => ?_) | fail)
  refine W.loopH (g.length) [1, 2, 15, 16] [] (fun k e lm => e.get 17 = some (.int .i64 ↑k) ∧ ((List.range m.rooms.length).take k).all (rowFit m g) = true) ?_ ?_
  ·skip
   refine ⟨?_, ?_⟩
   all_goals first | exact Z2 | (simp [go_sem, *]; done) | skip
   all_goals rfl
  intro k e lm hk0 hce hcl hinv
  simp only [keepE, and_true] at hce
  obtain ⟨c1, c2, c15, c16⟩ := hce
  simp only [go_sem, *, Nat.reduceLT, Int.reduceEq, Int.reduceBEq, Int.reduceLE, Int.reduceLT, Nat.reduceAdd, Nat.reduceBEq, Nat.reduceEqDiff, reduceIte, Nat.reduceLeDiff, Nat.reduceMul, Nat.reduceSub, reduceCtorEq] at c1 c2 c15 c16
  clear hcl
  obtain ⟨h17, hal⟩ := hinv
  by_cases hlt : k < g.length
  ·have hd0 : decide ((k : Int) < ((g.length : Nat) : Int)) = true := by first | (simpa using hlt; done) | (simp only [decide_eq_true_eq]; omega)
   have hv_0 := wrap_succ hlt md
   obtain ⟨r, hr⟩ := get_some hlt
   obtain ⟨p, hp'⟩ := get_some (l := m.rooms) (k := k) (by have := HGL.out; omega)
   have hix := fun H => rms_idx H1.out hp' H
   obtain ⟨b, hb1, hb2⟩ := lis_idx HG.out hr
   have ob := sl_out hb1
   have hcb := (slV_is hb1).1.cells
   have htb := (slV_is hb1).1.tup
   simp only [AV.cells] at hcb
   simp only [isTuple] at htb
   have hrf : rowFit m g k = r.all fun n => inB n p.lo p.hi := by
    unfold rowFit; simp only [List.getD, hr, hp', Option.getD_some]
   have hnx := all_at (p := rowFit m g) (l := List.range m.rooms.length) (k := k) (x := k) (by rw [List.getElem?_range (by have := HGL.out; omega)]) hal
   have k174 := fun h => K174 (X := dX c) h174 hb1 p h
   rw [hrf] at hnx
   have HNX := Lib.hid hnx
   have HRF := Lib.hid hrf
   have HLT0 := Lib.hid hlt
   obtain ⟨gg, hng⟩ : ∃ gg, nextGen lm 9 = gg := ⟨_, rfl⟩
   unfold nextGen at hng
   simp only [rmC] at k174
   clear hp' hr hb1 hrf hnx hal hlt
   cases hq : (r.all fun n => inB n p.lo p.hi) with
   | true =>
    rw [hq] at k174
    repeat' (first | refine goS ?_ | (apply U6; exact Z1; exact Z1; (focus (simp only [List.nil_append, List.append_nil]; first | exact k174 _)); simp only [pM, pN, rR, rP]) | refine go2 (fun hh => ?_) (fun hh => ?_) | fail)
    all_goals refine contH_mk (by first | assumption | exact HLT0.out) (by simp only [keepE, and_true, and_self, go_sem, *, Nat.reduceLT, Int.reduceEq, Int.reduceBEq, Int.reduceLE, Int.reduceLT, Nat.reduceAdd, Nat.reduceBEq, Nat.reduceEqDiff, reduceIte, Nat.reduceLeDiff, Nat.reduceMul, Nat.reduceSub, reduceCtorEq]) (by simp only [keepL, and_true, and_self, go_sem, *, Nat.reduceLT, Int.reduceEq, Int.reduceBEq, Int.reduceLE, Int.reduceLT, Nat.reduceAdd, Nat.reduceBEq, Nat.reduceEqDiff, reduceIte, Nat.reduceLeDiff, Nat.reduceMul, Nat.reduceSub, reduceCtorEq]) ?_
    all_goals refine ⟨?_, ?_⟩
    all_goals first | exact Z2 | skip
    all_goals exact HNX.out.trans hq
   | false =>
    rw [hq] at k174
    have hno : fitsB m g = false := by
     unfold fitsB
     rw [List.all_eq_false]
     refine ⟨k, List.mem_range.2 (by have := HGL.out; have := HLT0.out; omega), ?_⟩
     rw [HRF.out, hq]; simp
    rw [hno]
    clear hno
    repeat' (first | refine goS ?_ | (apply U6; exact Z1; exact Z1; (focus (simp only [List.nil_append, List.append_nil]; first | exact k174 _)); simp only [pM, pN, rR, rP]) | refine go2 (fun hh => ?_) (fun hh => ?_) | fail)
    all_goals (simp only [resV_def (X := dX c) Tryz.func173, Tryz.results173]; first | exact J5 | refine J6 ?_)
    all_goals rfl
  ·have hd0 : decide ((k : Int) < ((g.length : Nat) : Int)) = false := by first | (simpa using hlt; done) | (simp only [decide_eq_false_iff_not]; omega)
   obtain rfl : k = g.length := by omega
   have hrr : (List.range m.rooms.length).take g.length = List.range m.rooms.length := List.take_of_length_le (by have := HGL.out; simp; omega)
   rw [hrr] at hal
   have hfin : fitsB m g = true := hal
   rw [hfin]
   clear hal hrr hfin
   repeat' (first | refine goS ?_ | refine go2 (fun hh => ?_) (fun hh => ?_) | fail)
   all_goals (simp only [resV_def (X := dX c) Tryz.func173, Tryz.results173]; first | exact J5 | refine J6 ?_)
   all_goals rfl
theorem C127 (h127 : c 127 = none) (h173 : c 173 = none) (h174 : c 174 = some (pureFn sp174)) (m : Hs) (ra fa oa ha dv : AV) (g : List (List Int)) (hm : HsA m ra fa oa ha) (hg : lisV dv = some g) (h : Heap) :
  Cl (dX c) 127 [.agg [.int .i64 m.hours, ra, fa, oa, ha], dv] h (.ret (.bool (((g.length : Int) == m.rooms.length) && fitsB m g)) h none) := by
 refine ClR.cl ?_
 have o1 := sl_out hm.r
 have o2 := sl_out hm.f
 have o3 := sl_out hm.o
 have o4 := sl_out hm.h
 have od := lis_out hg
 have k173 := fun h => C173 h173 h174 m ra fa oa ha dv g hm hg h
 clear hm hg
 refine ClR.walk (c := _) h127 Tryz.func127 rfl (by kernel_rfl) rfl (fun e => by cases e) ?_
 try simp only [entryEnv, Nat.reduceAdd, List.nil_append, List.cons_append, emptyHp]
 repeat' (first | refine goS ?_ | (apply U6; exact Z1; exact Z1; (focus (simp only [List.nil_append, List.append_nil]; first | exact k173 _)); simp only [pM, pN, rR, rP]) | refine go2 (fun hh => ?_) (fun hh => ?_) | fail)
 all_goals (simp only [resV_def (X := dX c) Tryz.func127, Tryz.results127]; first | exact J5 | refine J6 ?_)
 all_goals rfl
def fitsV (m : Hs) (g : List (List Int)) (x : Fk) : AV := if (houseB m && shapeB m g && (findF x (failsH m)).isSome) = true then .tuple [.bool (fitsB m g), .int .i64 0] else .tuple [.bool false, .int .i64 2]
theorem shape_is {m : Hs} {g : List (List Int)} (h : shapeB m g = true) : g.length = m.rooms.length ∧ ∀ r ∈ g, (r.length : Int) = m.hours := by
 unfold shapeB at h
 simp only [Bool.and_eq_true, beq_iff_eq, Bool.not_eq_true', List.any_eq_false, bne_iff_ne, ne_eq, Decidable.not_not] at h
 exact ⟨by omega, h.2⟩
theorem K126 {X : Ctx} (hX : X.intr 126 = some (pureFn sp126)) {ra fa oa ha dv : AV} {m : Hs} {g : List (List Int)} (hm : HsA m ra fa oa ha) (hg : lisV dv = some g) (h : Heap) :
  Cl X 126 [.agg [.int .i64 m.hours, ra, fa, oa, ha], dv] h (.ret (.bool (shapeB m g)) h none) :=
 Cl.intr hX (by
  have h1 := hm.pur
  have h2 := hm.hs
  simp only [pureFn, AV.purL, h1, lis_pur hg, Bool.and_self, if_true, sp126, h2, hg])
structure CxF (c : Itr) : Prop where
 h77 : c 77 = none
 h82 : c 82 = some (flatFnD sp82)
 h126 : c 126 = some (pureFn sp126)
 h106 : c 106 = some (pureFn sp106)
 h127 : c 127 = none
 h173 : c 173 = none
 h174 : c 174 = some (pureFn sp174)
set_option maxHeartbeats 4000000 in
theorem C77 (hc : CxF c) (m : Hs) (ra fa oa ha dv : AV) (g : List (List Int)) (x : Fk) (hm : HsA m ra fa oa ha) (hg : lisV dv = some g) (h : Heap) :
  Cl (dX c) 77 [.agg [.int .i64 m.hours, ra, fa, oa, ha], .agg [dv, .int .i64 x.what, .int .i64 x.num, .int .i64 x.hour]] h (.ret (fitsV m g x) h none) := by
 refine ClR.cl ?_
 have o1 := sl_out hm.r
 have o2 := sl_out hm.f
 have o3 := sl_out hm.o
 have o4 := sl_out hm.h
 have od := lis_out hg
 have h0 := hc.h77
 have k82 := fun h => K82p (X := dX c) hc.h82 hm h
 have k126 := fun h => K126 (X := dX c) hc.h126 hm hg h
 have k127 := fun h => C127 hc.h127 hc.h173 hc.h174 m ra fa oa ha dv g hm hg h
 unfold fitsV
 cases hb : houseB m with
 | false =>
  rw [hb] at k82
  simp only [Bool.false_and, Bool.false_eq_true, if_false]
  clear hm hg hc k127 hb
  refine ClR.walk (c := _) h0 Tryz.func77 rfl (by kernel_rfl) rfl (fun e => by cases e) ?_
  try simp only [entryEnv, Nat.reduceAdd, List.nil_append, List.cons_append, emptyHp]
  repeat' (first | refine goS ?_ | (apply U6; exact Z1; exact Z1; (focus (simp only [List.nil_append, List.append_nil]; first | exact k82 _)); simp only [pM, pN, rR, rP]) | refine go2 (fun hh => ?_) (fun hh => ?_) | fail)
  all_goals (simp only [resV_def (X := dX c) Tryz.func77, Tryz.results77]; first | exact J5 | refine J6 ?_)
  all_goals rfl
 | true =>
  rw [hb] at k82
  have k106 := fun h => K106 (X := dX c) hc.h106 hm (ho_walk (house_ok hb)) x h
  cases hs : shapeB m g with
  | false =>
   rw [hs] at k126
   simp only [Bool.false_and, Bool.and_false, Bool.false_eq_true, if_false]
   clear hm hg hc k127 hb hs k106
   refine ClR.walk (c := _) h0 Tryz.func77 rfl (by kernel_rfl) rfl (fun e => by cases e) ?_
   try simp only [entryEnv, Nat.reduceAdd, List.nil_append, List.cons_append, emptyHp]
   repeat' (first | refine goS ?_ | (apply U6; exact Z1; exact Z1; (focus (simp only [List.nil_append, List.append_nil]; first | exact k82 _ | exact k126 _)); simp only [pM, pN, rR, rP]) | refine go2 (fun hh => ?_) (fun hh => ?_) | fail)
   all_goals (simp only [resV_def (X := dX c) Tryz.func77, Tryz.results77]; first | exact J5 | refine J6 ?_)
   all_goals rfl
  | true =>
   rw [hs] at k126
   have hgl : ((g.length : Int) == m.rooms.length) = true := by have := (shape_is hs).1; simp [this]
   rw [hgl] at k127
   simp only [Bool.true_and] at k127
   unfold fndV at k106
   simp only [Bool.and_self, Bool.true_and]
   simp only [fkC] at k106
   cases hf : findF x (failsH m) with
   | none =>
    rw [hf] at k106
    simp only [Option.isSome_none, Bool.false_eq_true, if_false, zero157] at k106 ⊢
    clear hm hg hc k127 hb hs hgl hf
    refine ClR.walk (c := _) h0 Tryz.func77 rfl (by kernel_rfl) rfl (fun e => by cases e) ?_
    try simp only [entryEnv, Nat.reduceAdd, List.nil_append, List.cons_append, emptyHp]
    repeat' (first | refine goS ?_ | (apply U6; exact Z1; exact Z1; (focus (simp only [List.nil_append, List.append_nil]; first | exact k82 _ | exact k126 _ | exact k106 _)); simp only [pM, pN, rR, rP]) | refine go2 (fun hh => ?_) (fun hh => ?_) | fail)
    all_goals (simp only [resV_def (X := dX c) Tryz.func77, Tryz.results77]; first | exact J5 | refine J6 ?_)
    all_goals rfl
   | some f =>
    rw [hf] at k106
    obtain ⟨fo, fcl, fit, _⟩ := fl_parts f
    simp only [Option.isSome_some, if_true] at k106 ⊢
    simp only [AV.cells] at fcl
    simp only [isTuple] at fit
    clear hm hg hc hb hs hgl hf
    generalize f.enc = fv at *
    generalize fitsB m g = bf at *
    refine ClR.walk (c := _) h0 Tryz.func77 rfl (by kernel_rfl) rfl (fun e => by cases e) ?_
    try simp only [entryEnv, Nat.reduceAdd, List.nil_append, List.cons_append, emptyHp]
    repeat' (first | refine goS ?_ | (apply U6; exact Z1; exact Z1; (focus (simp only [List.nil_append, List.append_nil]; first | exact k82 _ | exact k126 _ | exact k106 _ | exact k127 _)); simp only [pM, pN, rR, rP]) | refine go2 (fun hh => ?_) (fun hh => ?_) | fail)
    all_goals (simp only [resV_def (X := dX c) Tryz.func77, Tryz.results77]; first | exact J5 | refine J6 ?_)
    all_goals rfl
end
end Go.AM
namespace Go.AM
open Go Go.Proofs
variable [Keep]
attribute [local irreducible] W WO WO1 WD WQ WT thenQ blockQ endR isRet retK Cl ClR
open Go.TX (Rm Fa Ha Hs)
attribute [local irreducible] runsB madeR madeF drawnP sumW rowF nowF
theorem C125 (c : Itr) (hc : c 125 = none) (k : Nat) (id : Nat) (b : AV) (r : List Int) (hb : slV intC b = some r) (n : Int) (hn : r[k]? = some n) (h : Heap) (hg : h.get id = some (.var [b])) :
  Cl (dX c) 125 (([] ++ [.int .i64 (k : Int)]) ++ [.ptr id 0]) h (.ret (.int .i64 n) h none) := by
 refine ClR.cl ?_
 have ob := sl_out hb
 have hix := fun H => ints_idx hb hn H
 clear hb hn
 refine ClR.walk (c := _) hc Tryz.func125 rfl (by kernel_rfl) rfl (fun e => by cases e) ?_
 try simp only [entryEnv, Nat.reduceAdd, List.nil_append, List.cons_append, emptyHp]
 repeat' (first | refine goS ?_ | refine go2 (fun hh => ?_) (fun hh => ?_) | fail)
 all_goals (simp only [resV_def (X := dX c) Tryz.func125, Tryz.results125]; first | exact J5 | refine J6 ?_)
 all_goals rfl
noncomputable def cN2 : Itr
 | 82 => some (flatFnD sp82)
 | 126 => some (pureFn sp126)
 | 106 => some (pureFn sp106)
 | 174 => some (pureFn sp174)
 | 102 => some (pureFn sp102)
 | 89 => some (pureFn sp89)
 | 171 => some (flatFnD sp171)
 | _ => none
theorem cN2_sound : Sound (dX cN2) := dX_sound (fun f g h => by
 unfold cN2 at h
 split at h
 ·cases h; exact F82D
 ·cases h; exact F126
 ·cases h; exact F106
 ·cases h; exact F174
 ·cases h; exact F102
 ·cases h; exact F89
 ·cases h; exact F171D
 ·cases h)
theorem hcF2 : CxF cN2 := ⟨rfl, rfl, rfl, rfl, rfl, rfl, rfl⟩
def isTruth (m : Hs) (g : List (List Int)) (x : Fk) : Bool := houseB m && shapeB m g && (findF x (failsH m)).isSome && fitsB m g
def runV (m : Hs) (g : List (List Int)) (x : Fk) : AV := if isTruth m g x = true then (match findF x (failsH m) with
 | some f => .tuple [slN (rowsE (runL m f g m.hours.toNat m.rooms.length)), .int .i64 0]
 | none => .tuple [.nilslice, .int .i64 2]) else .tuple [.nilslice, .int .i64 2]
def sp68 : List AV → Option AV
 | [x, .agg [dv, .int .i64 w, .int .i64 a, .int .i64 b]] => match hsV x, lisV dv with
  | some m, some g => some (runV m g ⟨w, a, b⟩)
  | _, _ => none
 | _ => none
theorem p68 : ∀ args v, sp68 args = some v → v.pur = true := by
 intro args v h
 unfold sp68 at h
 split at h
 ·split at h
  ·cases h
   unfold runV
   split
   ·split
    ·simp [AV.pur, AV.purL, rowsE_pur]
    ·rfl
   ·rfl
  ·cases h
 ·cases h
theorem fits_v {m : Hs} {g : List (List Int)} {x : Fk} : (isTruth m g x = true ∧ fitsV m g x = .tuple [.bool true, .int .i64 0]) ∨ (isTruth m g x = false ∧ fitsV m g x = .tuple [.bool false, .int .i64 0]) ∨ (isTruth m g x = false ∧ fitsV m g x = .tuple [.bool false, .int .i64 2]) := by
 unfold isTruth fitsV
 cases houseB m && shapeB m g && (findF x (failsH m)).isSome <;> cases fitsB m g <;> simp
set_option maxHeartbeats 8000000 in
theorem R68 (m : Hs) (ra fa oa ha dv : AV) (g : List (List Int)) (x : Fk) (hm : HsA m ra fa oa ha) (hg : lisV dv = some g) :
  ClR (dX cN2) 68 [.agg [.int .i64 m.hours, ra, fa, oa, ha], .agg [dv, .int .i64 x.what, .int .i64 x.num, .int .i64 x.hour]] emptyHp (isRet (runV m g x)) := by
 have o1 := sl_out hm.r
 have o2 := sl_out hm.f
 have o3 := sl_out hm.o
 have o4 := sl_out hm.h
 have od := lis_out hg
 have ld := lis_len hg
 have k77 := fun h => C77 hcF2 m ra fa oa ha dv g x hm hg h
 have n0 : ((0 : Int) != 0) = false := rfl
 have n2 : ((2 : Int) != 0) = true := rfl
 rcases fits_v (m := m) (g := g) (x := x) with ⟨ht, hv⟩ | ⟨ht, hv⟩ | ⟨ht, hv⟩
 rotate_left
 ·have hr : runV m g x = .tuple [.nilslice, .int .i64 2] := by unfold runV; rw [ht]; rfl
  rw [hv] at k77
  rw [hr]
  clear hm hg ht hv hr
  refine ClR.walk (c := _) rfl Tryz.func68 rfl (by kernel_rfl) rfl isRet_fail ?_
  try simp only [entryEnv, Nat.reduceAdd, List.nil_append, List.cons_append, emptyHp]
  repeat' (first | refine goS ?_ | (apply U6; exact Z1; exact Z1; (focus (simp only [List.nil_append, List.append_nil]; first | exact k77 _)); simp only [pM, pN, rR, rP]) | refine go2 (fun hh => ?_) (fun hh => ?_) | fail)
  all_goals (simp only [resV_def (X := dX cN2) Tryz.func68, Tryz.results68]; first | exact J5 | refine J6 ?_)
  all_goals rfl
 ·have hr : runV m g x = .tuple [.nilslice, .int .i64 2] := by unfold runV; rw [ht]; rfl
  rw [hv] at k77
  rw [hr]
  clear hm hg ht hv hr
  refine ClR.walk (c := _) rfl Tryz.func68 rfl (by kernel_rfl) rfl isRet_fail ?_
  try simp only [entryEnv, Nat.reduceAdd, List.nil_append, List.cons_append, emptyHp]
  repeat' (first | refine goS ?_ | (apply U6; exact Z1; exact Z1; (focus (simp only [List.nil_append, List.append_nil]; first | exact k77 _)); simp only [pM, pN, rR, rP]) | refine go2 (fun hh => ?_) (fun hh => ?_) | fail)
  all_goals (simp only [resV_def (X := dX cN2) Tryz.func68, Tryz.results68]; first | exact J5 | refine J6 ?_)
  all_goals rfl
 rw [hv] at k77
 have hp := ht
 unfold isTruth at hp
 simp only [Bool.and_eq_true] at hp
 obtain ⟨⟨⟨hb, hs⟩, hi⟩, hf⟩ := hp
 have ho := house_ok hb
 obtain ⟨f, hff⟩ := Option.isSome_iff_exists.1 hi
 have k106 := fun h => K106 (X := dX cN2) rfl hm (ho_walk ho) x h
 unfold fndV at k106
 have hr : runV m g x = .tuple [slN (rowsE (runL m f g m.hours.toNat m.rooms.length)), .int .i64 0] := by unfold runV; rw [ht, hff]; rfl
 rw [hff] at k106
 rw [hr]
 obtain ⟨nn, hnn, hnt, hn1, hn4, hol⟩ := ho_parts ho
 obtain ⟨hgl, hgr⟩ := shape_is hs
 have hr3 := ho.rooms
 have hf4 := ho.fans
 have hroom := fun (r : Nat) (hrl : r < m.rooms.length) (g : FuncId) (first capt : List AV) (md : Nat → Int) (h : Heap) hmd => C124 cN2 rfl rfl rfl rfl rfl rfl rfl rfl rfl rfl rfl m f ra fa oa ha hm.r hm.f hm.o o4 nn hnn hol (by omega) (by omega) r hrl g first capt md h hmd
 obtain ⟨fo, fcl, fit, _⟩ := fl_parts f
 simp only [AV.cells] at fcl
 simp only [isTuple] at fit
 rw [hnt]
 rw [hnn] at hgr
 simp only [fkC] at k106
 have HG := Lib.hid hg
 have HROOM := Lib.hid hroom
 have HGL := Lib.hid hgl
 have HGR := Lib.hid hgr
 have HR := Lib.hid hr3
 have HN := Lib.hid hn4
 have HNN := Lib.hid hnn
 clear hm hg ht hv hr hb hs hi hf ho hff hgl hgr hroom hr3 hf4 hn4 hn1 hol hnt hnn
 generalize f.enc = fv at *
 have hno : ∀ (m : Hs), 0 ≤ 0 := fun _ => Nat.le_refl _
 refine ClR.walk (c := _) rfl Tryz.func68 rfl (by kernel_rfl) rfl isRet_fail ?_
 try simp only [entryEnv, Nat.reduceAdd, List.nil_append, List.cons_append, emptyHp]
 repeat' (first | refine goS ?_ | (apply U6; exact Z1; exact Z1; (focus (simp only [List.nil_append, List.append_nil]; first | exact k77 _ | exact k106 _)); simp only [pM, pN, rR, rP]) | refine go2 (fun hh => ?_) (fun hh => ?_) | fail)
 refine W.loopV (g.length) [8, 34, 35] [8] (fun k e lm hp => ∃ v, e.get 36 = some (.int .i64 ↑k) ∧ e.get 10 = some (v) ∧ Blt hp v 1 (rowsE (runL m f g nn k))) ?_ ?_
 ·skip
  refine ⟨.nilslice, ?_, ?_, Blt.nil⟩
  all_goals first | exact Z2 | (simp [go_sem, *]; done) | skip
 intro k e lm hp hk0 hce hcl hinv
 simp only [keepE, and_true] at hce
 obtain ⟨c8, c34, c35⟩ := hce
 simp only [go_sem, *, Nat.reduceLT, Int.reduceEq, Int.reduceBEq, Int.reduceLE, Int.reduceLT, Nat.reduceAdd, Nat.reduceBEq, Nat.reduceEqDiff, reduceIte, Nat.reduceLeDiff, Nat.reduceMul, Nat.reduceSub, reduceCtorEq] at c8 c34 c35
 simp only [keepL, and_true] at hcl
 have d8 := hcl
 clear hcl
 simp only [go_sem, *, Nat.reduceLT, Int.reduceEq, Int.reduceBEq, Int.reduceLE, Int.reduceLT, Nat.reduceAdd, Nat.reduceBEq, Nat.reduceEqDiff, reduceIte, Nat.reduceLeDiff, Nat.reduceMul, Nat.reduceSub, reduceCtorEq] at d8
 obtain ⟨v, h36, h10, hB⟩ := hinv
 by_cases hlt : k < g.length
 ·have hd0 : decide ((k : Int) < ((g.length : Nat) : Int)) = true := by first | (simpa using hlt; done) | (simp only [decide_eq_true_eq]; omega)
  have hv_0 := wrap_succ hlt (by have := HR.out; have := HGL.out; unfold maxL; omega)
  obtain ⟨hpn, hpm⟩ := hp
  obtain ⟨r, hr⟩ := get_some hlt
  obtain ⟨b, hb1, hb2⟩ := lis_idx HG.out hr
  have ob := sl_out hb1
  have hcb := (slV_is hb1).1.cells
  have htb := (slV_is hb1).1.tup
  simp only [AV.cells] at hcb
  simp only [isTuple] at htb
  have hrl := HGR.out r (List.mem_of_getElem? hr)
  have hbo := hB.out
  have hroom := fun H hmd => HROOM.out k (by have := HGL.out; omega) 125 [] [.ptr hpn 0] (mdG g k) H hmd
  have hmd : ∀ j n, r[j]? = some n → mdG g k j = n := by intro j n e; simp [mdG, List.getD, hr, e]
  have hnx : runL m f g nn (k + 1) = runL m f g nn k ++ [rowF m f k (mdG g k) nn] := rfl
  have HNX := Lib.hid hnx
  have HB0 := Lib.hid hB
  have HB1 := Lib.hid hb1
  have HRL := Lib.hid hrl
  have HMD := Lib.hid hmd
  have HLT0 := Lib.hid hlt
  have HRM := Lib.hid hroom
  generalize rowF m f k (mdG g k) nn = w1 at *
  clear hr hb1 hrl hmd hlt hB hroom hnx
  repeat' (first | refine goS ?_ | refine go2 (fun hh => ?_) (fun hh => ?_) | fail)
  generalize hz1 : Heap.mk (hpn + 1) _ = z1
  have hg1 : z1.get hpn = some (.var [b]) := by
   rw [← hz1]; simp only [Heap.get, Mp.get_set, if_true]
  have hx1 : HExt ⟨hpn, hpm⟩ z1 := by
   rw [← hz1]
   refine ⟨Nat.le_succ _, fun id hid => ?_⟩
   have hid' : id < hpn := hid
   have : ¬ hpn = id := by omega
   simp only [Heap.get, Mp.get_set, if_neg this]
  have hn1 : z1.next = hpn + 1 := by rw [← hz1]
  clear hz1
  have hr1 := HRM.out z1 (fun a H ha hx => C125 cN2 rfl a hpn b r HB1.out _ (by
   obtain ⟨n, hn⟩ := get_some (l := r) (k := a) (by have := HRL.out; omega)
   rw [hn, HMD.out a n hn]) H ((hx.2 hpn (by rw [hn1]; exact Nat.lt_succ_self _)).trans hg1))
  unfold ClR roomR at hr1
  obtain ⟨_, hcl1, z2, hx2, rfl⟩ := hr1
  have hB := (HB0.out.ext hx1).ext hx2
  have hi1 := (slN_is (intsE w1))
  have hsc : (slN (intsE w1)).cells.length = 1 := by rw [hi1.cells]; rfl
  have hw1 := hi1.out
  have hw2 := hi1.cells
  have hw3 := hi1.tup
  have hll : (rowsE (runL m f g nn k)).length + 1 ≤ most := by rw [rowsE_len, runL_len]; have := HR.out; have := HGL.out; have := HLT0.out; unfold most; omega
  have HN1 := Lib.hid hn1
  clear hg1 hx1 hn1 hx2 hi1
  generalize hsl : slN (intsE w1) = y1 at *
  have HSL := Lib.hid hsl
  clear hsl
  simp only [AV.cells] at hw2
  simp only [isTuple] at hw3
  repeat' (first | (apply WO1.append (t := 36) (u := 36) (e := 24) (e' := 24) (sz := 1) (tl := []) (hb := hB); exact Z1; exact rfl; exact Z2; exact Z2; exact Z2; (focus (exact ty_row36)); exact Z1; (focus (intro v hv; simp at hv; subst hv; first | rfl | exact hsc)); (focus (simp only [List.length_map, List.length_cons, List.length_nil]; exact hll)); (focus (simp)); (intro v' h' hB' ho' hk'; have hcc' := hB'.cells; have htt' := hB'.tup; simp only [AV.cells] at hcc'; simp only [isTuple] at htt'; simp only [pM, pN])) | refine go1 ?_ | (apply U6; exact Z1; exact Z1; (focus (simp only [List.nil_append, List.append_nil]; first | exact hcl1)); simp only [pM, pN, rR, rP]) | refine go2 (fun hh => ?_) (fun hh => ?_) | fail)
  all_goals refine contV_mk (by first | assumption | exact HLT0.out) (by simp only [keepE, and_true, and_self, go_sem, *, Nat.reduceLT, Int.reduceEq, Int.reduceBEq, Int.reduceLE, Int.reduceLT, Nat.reduceAdd, Nat.reduceBEq, Nat.reduceEqDiff, reduceIte, Nat.reduceLeDiff, Nat.reduceMul, Nat.reduceSub, reduceCtorEq]) (by simp only [keepL, and_true, and_self, go_sem, *, Nat.reduceLT, Int.reduceEq, Int.reduceBEq, Int.reduceLE, Int.reduceLT, Nat.reduceAdd, Nat.reduceBEq, Nat.reduceEqDiff, reduceIte, Nat.reduceLeDiff, Nat.reduceMul, Nat.reduceSub, reduceCtorEq]) ?_
  all_goals refine ⟨v', ?_, ?_, ?_⟩
  all_goals first | exact Z2 | skip
  ·rw [HNX.out, rowsE_app, HSL.out]
   exact hB'
 ·have hd0 : decide ((k : Int) < ((g.length : Nat) : Int)) = false := by first | (simpa using hlt; done) | (simp only [decide_eq_false_iff_not]; omega)
  obtain rfl : k = g.length := by omega
  have hgl : g.length = m.rooms.length := HGL.out
  have hB2 := hB
  rw [hgl] at hB2
  obtain ⟨h', hz, hz2, hz1⟩ := hB2.freeze
  have hbo := hB.out
  clear hB hgl hB2 HROOM
  repeat' (first | refine goS ?_ | refine go2 (fun hh => ?_) (fun hh => ?_) | fail)
  all_goals (simp only [resV_def (X := dX cN2) Tryz.func68, Tryz.results68]; first | exact J5 | refine J6 ?_)
  all_goals rfl
theorem F68 : IntrFn Tryz.prog 68 (pureFn sp68) := by
 refine pure_fn (X := dX cN2) cN2_sound p68 ?_
 intro args v h
 unfold sp68 at h
 split at h
 ·split at h
  ·rename_i m g hm hg
   have h := Option.some.inj h
   subst h
   obtain ⟨ra, fa, oa, ha, rfl, hA⟩ := hs_parts' hm
   exact R68 m ra fa oa ha _ g ⟨_, _, _⟩ hA hg
  ·cases h
 ·cases h
theorem K68 {X : Ctx} (hX : X.intr 68 = some (pureFn sp68)) {ra fa oa ha dv : AV} {m : Hs} {g : List (List Int)} (hm : HsA m ra fa oa ha) (hg : lisV dv = some g) (x : Fk) (h : Heap) :
  Cl X 68 [.agg [.int .i64 m.hours, ra, fa, oa, ha], .agg [dv, .int .i64 x.what, .int .i64 x.num, .int .i64 x.hour]] h (.ret (runV m g x) h none) :=
 Cl.intr hX (by
  have h2 := hm.hs
  obtain ⟨w, a, b⟩ := x
  simp only [pureFn, AV.pur, AV.purL, sl_pur hm.r, sl_pur hm.f, sl_pur hm.o, sl_pur hm.h, lis_pur hg, Bool.and_self, if_true, sp68, h2, hg])
end Go.AM
namespace Go.AM
open Go Go.Proofs
variable [Keep]
attribute [local irreducible] W WO WO1 WD WQ WT thenQ blockQ endR isRet retK Cl ClR
open Go.TX (Rm Fa Ha Hs)
attribute [local irreducible] runsB madeR madeF drawnP sumW rowF nowF houseB fitsB
def LsI (dv : AV) (g : List (List Int)) : Prop := ∃ es : List AV, isSl dv es ∧ es.length = g.length ∧ ∀ (k : Nat) (l : List Int), g[k]? = some l → ∃ b, es[k]? = some b ∧ isSl b (intsE l)
theorem LsI.idx {dv : AV} {g : List (List Int)} (q : LsI dv g) {k : Nat} {l : List Int} (hk : g[k]? = some l) : ∃ b, isSl b (intsE l) ∧ ∀ H, indexAddrV Tryz.prog H 36 dv (.int .i64 ↑k) = some (.vptr [b]) := by
 obtain ⟨es, h1, h2, h3⟩ := q
 obtain ⟨b, e1, e2⟩ := h3 k l hk
 refine ⟨b, e2, fun H => ?_⟩
 have := h1.idx (hp := H) (x := b) (m := 1) Tryz.underlying36 ty_lay24 e1 (by rw [e2.cells]; rfl)
 rw [e2.cells] at this
 exact this
theorem LsI.len {dv : AV} {g : List (List Int)} (q : LsI dv g) : lenS dv = some g.length := by
 obtain ⟨es, h1, h2, h3⟩ := q
 rw [h1.len, h2]
theorem LsI.out {dv : AV} {g : List (List Int)} (q : LsI dv g) : outV (some dv) = some dv := by
 obtain ⟨es, h1, h2, h3⟩ := q
 exact h1.out
theorem lisL_mk : ∀ {es : List AV} {g : List (List Int)}, es.length = g.length → (∀ (k : Nat) (l : List Int), g[k]? = some l → ∃ b, es[k]? = some b ∧ isSl b (intsE l)) → (∀ l ∈ g, l.length ≤ maxL) → lisL es = some g
 | [], [], _, _, _ => rfl
 | [], _ :: _, h, _, _ => by simp at h
 | _ :: _, [], h, _, _ => by simp at h
 | a :: es, l :: g, h, hi, hm => by
  obtain ⟨b, e1, e2⟩ := hi 0 l rfl
  simp only [List.getElem?_cons_zero, Option.some.injEq] at e1
  subst e1
  have h1 : slV intC a = some l := slV_mk e2 (hm l (by simp))
  have h2 := lisL_mk (es := es) (g := g) (by simpa using h) (fun k l' hk => by
   have := hi (k + 1) l' (by simpa using hk)
   simpa using this) (fun l' hl => hm l' (by simp [hl]))
  simp only [lisL, h1, h2]
theorem LsI.lis {dv : AV} {g : List (List Int)} (q : LsI dv g) (h : g.length ≤ maxL) (hm : ∀ l ∈ g, l.length ≤ maxL) : lisV dv = some g := by
 obtain ⟨es, h1, h2, h3⟩ := q
 have hl := lisL_mk h2 h3 hm
 rcases h1 with ⟨rfl | rfl, rfl⟩ | rfl
 ·cases g with
  | nil => rfl
  | cons a r => simp at h2
 ·cases g with
  | nil => rfl
  | cons a r => simp at h2
 ·unfold lisV
  simp only
  rw [if_pos (by omega), hl]
def sizedL (g : List (List Int)) : Bool := ((g.take 7).all fun l => decide (l.length ≤ 7)) && decide ((g.length : Int) ≤ 6)
theorem sizedL_is {g : List (List Int)} (h : sizedL g = true) : g.length ≤ 6 ∧ ∀ l ∈ g, l.length ≤ 7 := by
 unfold sizedL at h
 simp only [Bool.and_eq_true, decide_eq_true_eq, List.all_eq_true] at h
 have h1 : g.length ≤ 6 := by omega
 rw [List.take_of_length_le (by omega)] at h
 exact ⟨h1, h.1⟩
theorem LsI.sized {dv : AV} {g : List (List Int)} (q : LsI dv g) (h : sizedL g = true) : lisV dv = some g := by
 obtain ⟨h1, h2⟩ := sizedL_is h
 exact q.lis (by unfold maxL; omega) fun l hl => by have := h2 l hl; unfold maxL; omega
section
variable {c : Itr}
set_option maxHeartbeats 4000000 in
theorem C51 (h51 : c 51 = none) (dv : AV) (g : List (List Int)) (q : LsI dv g) (h : Heap) : Cl (dX c) 51 [dv] h (.ret (.bool (sizedL g)) h none) := by
 refine ClR.cl ?_
 have ld := q.len
 have od := q.out
 have HQ := Lib.hid q
 have hmin : min g.length 7 ≤ 7 := Nat.min_le_right _ _
 have hmin2 : min g.length 7 ≤ g.length := Nat.min_le_left _ _
 clear q
 refine ClR.walk (c := _) h51 Tryz.func51 rfl (by kernel_rfl) rfl (fun e => by cases e) ?_
 try simp only [entryEnv, Nat.reduceAdd, List.nil_append, List.cons_append, emptyHp]
 repeat' (first | refine goS ?_ | refine go2 (fun hh => ?_) (fun hh => ?_) | fail)
 refine W.loopH (min g.length 7) [0] [] (fun k e lm => e.get 3 = some (.int .i64 ↑k) ∧ (g.take k).all (fun l => decide (l.length ≤ 7)) = true) ?_ ?_
 ·refine ⟨?_, ?_⟩ <;> first | exact Z2 | rfl | assumption | (simp [go_sem, *]; done)
 intro k e lm hk0 hce hcl hinv
 simp only [keepE, and_true] at hce
 have c0 := hce
 clear hce
 simp only [go_sem, *, Nat.reduceLT, Int.reduceEq, Int.reduceBEq, Int.reduceLE, Int.reduceLT, Nat.reduceAdd, Nat.reduceBEq, Nat.reduceEqDiff, reduceIte, Nat.reduceLeDiff, Nat.reduceMul, Nat.reduceSub, reduceCtorEq] at c0
 clear hcl
 obtain ⟨h3, hal⟩ := hinv
 by_cases hlt : k < min g.length 7
 ·have hd0 : decide ((k : Int) < ((min g.length 7 : Nat) : Int)) = true := by first | (simpa using hlt; done) | (simp only [decide_eq_true_eq]; omega)
  have hv_0 := wrap_succ hlt (by unfold maxL; omega)
  obtain ⟨l, hl⟩ := get_some (l := g) (k := k) (by omega)
  obtain ⟨b, hb1, hb2⟩ := HQ.out.idx hl
  have lb := hb1.len
  have ob := hb1.out
  have hcb := hb1.cells
  have htb := hb1.tup
  simp only [AV.cells] at hcb
  simp only [isTuple] at htb
  rw [intsE_len] at lb
  have hnx := all_at hl hal
  have he1 : decide ((k : Int) < (g.length : Int)) = true := by simp only [decide_eq_true_eq]; omega
  have he2 : decide ((k : Int) < 7) = true := by simp only [decide_eq_true_eq]; omega
  have HNX := Lib.hid hnx
  have HLL := Lib.hid hl
  have HLT0 := Lib.hid hlt
  clear hb1 hl hnx hal
  cases hq : decide ((l.length : Int) > 7) with
  | true =>
   have hno : sizedL g = false := by
    unfold sizedL
    have : ((g.take 7).all fun l => decide (l.length ≤ 7)) = false := by
     rw [List.all_eq_false]
     have h7 : k < 7 := by omega
     refine ⟨l, List.mem_of_getElem? (i := k) (by rw [List.getElem?_take, if_pos h7]; exact HLL.out), ?_⟩
     simp only [decide_eq_true_eq] at hq ⊢
     omega
    rw [this, Bool.false_and]
   rw [hno]
   clear hno hlt
   repeat' (first | refine goS ?_ | refine go2 (fun hh => ?_) (fun hh => ?_) | fail)
   all_goals (simp only [resV_def (X := dX c) Tryz.func51, Tryz.results51]; first | exact J5 | refine J6 ?_)
   all_goals rfl
  | false =>
   have hle : decide (l.length ≤ 7) = true := by simp only [decide_eq_false_iff_not, decide_eq_true_eq] at hq ⊢; omega
   clear hlt
   repeat' (first | refine goS ?_ | refine go2 (fun hh => ?_) (fun hh => ?_) | fail)
   all_goals refine contH_mk (by first | assumption | exact HLT0.out) (by simp only [keepE, and_true, and_self, go_sem, *, Nat.reduceLT, Int.reduceEq, Int.reduceBEq, Int.reduceLE, Int.reduceLT, Nat.reduceAdd, Nat.reduceBEq, Nat.reduceEqDiff, reduceIte, Nat.reduceLeDiff, Nat.reduceMul, Nat.reduceSub, reduceCtorEq]) (by simp only [keepL, and_true, and_self, go_sem, *, Nat.reduceLT, Int.reduceEq, Int.reduceBEq, Int.reduceLE, Int.reduceLT, Nat.reduceAdd, Nat.reduceBEq, Nat.reduceEqDiff, reduceIte, Nat.reduceLeDiff, Nat.reduceMul, Nat.reduceSub, reduceCtorEq]) ?_
   all_goals refine ⟨?_, ?_⟩
   all_goals first | exact Z2 | skip
   all_goals exact HNX.out.trans hle
 ·have hd0 : decide ((k : Int) < ((min g.length 7 : Nat) : Int)) = false := by first | (simpa using hlt; done) | (simp only [decide_eq_false_iff_not]; omega)
  obtain rfl : k = min g.length 7 := by omega
  have hS : sizedL g = decide ((g.length : Int) ≤ 6) := by
   unfold sizedL
   by_cases h7 : g.length ≤ 7
   ·have e1 : g.take (min g.length 7) = g := List.take_of_length_le (by omega)
    rw [e1] at hal
    rw [List.take_of_length_le h7, hal, Bool.true_and]
   ·have e1 : min g.length 7 = 7 := by omega
    rw [e1] at hal
    rw [hal, Bool.true_and]
  rw [hS]
  clear hal hS
  by_cases h7 : g.length ≤ 7
  ·have e1 : min g.length 7 = g.length := by omega
   have he1 : decide ((↑(min g.length 7) : Int) < (g.length : Int)) = false := by rw [e1]; simp
   clear e1
   repeat' (first | refine goS ?_ | refine go2 (fun hh => ?_) (fun hh => ?_) | fail)
   all_goals (simp only [resV_def (X := dX c) Tryz.func51, Tryz.results51]; first | exact J5 | refine J6 ?_)
   all_goals rfl
  ·have e1 : min g.length 7 = 7 := by omega
   have he1 : decide ((↑(min g.length 7) : Int) < (g.length : Int)) = true := by simp only [decide_eq_true_eq]; omega
   have he2 : decide ((↑(min g.length 7) : Int) < 7) = false := by simp only [decide_eq_false_iff_not]; omega
   clear e1
   repeat' (first | refine goS ?_ | refine go2 (fun hh => ?_) (fun hh => ?_) | fail)
   all_goals (simp only [resV_def (X := dX c) Tryz.func51, Tryz.results51]; first | exact J5 | refine J6 ?_)
   all_goals rfl
end
theorem viewV_p {h : Heap} {a : AV} (hp : a.pur = true) : viewV h a = some a := by
 cases a <;> first | (simp [AV.pur] at hp; done) | (simp only [viewV, hp, if_true]; done)
theorem viewVs_p {h : Heap} : ∀ {l : List AV}, AV.purL l = true → viewVs h l = some l
 | [], _ => rfl
 | a :: r, hp => by
  simp only [AV.purL, Bool.and_eq_true] at hp
  simp only [viewVs, viewV_p hp.1, viewVs_p hp.2]
theorem viewD_p {h : Heap} {a : AV} (hp : a.pur = true) : viewD h a = some a := by
 cases a with
 | agg l => simp only [viewD, viewVs_p (l := l) (by simpa [AV.pur] using hp), Option.map_some]
 | _ => exact viewV_p (h := h) hp
theorem viewDs_p {h : Heap} : ∀ {l : List AV}, AV.purL l = true → viewDs h l = some l
 | [], _ => rfl
 | a :: r, hp => by
  simp only [AV.purL, Bool.and_eq_true] at hp
  simp only [viewDs, viewD_p hp.1, viewDs_p hp.2]
theorem sized_shape {m : Hs} (ho : HOk m) (g : List (List Int)) (x : Fk) : sizedB m g x = (shapeB m g && (findF x (failsH m)).isSome) := by
 unfold sizedB shapeB
 rw [isFail_find ho]
 have : (g.all fun r => (r.length : Int) == m.hours) = !(g.any fun r => (r.length : Int) != m.hours) := by
  induction g with
  | nil => rfl
  | cons a l ih => simp only [List.all_cons, List.any_cons, Bool.not_or, ih, bne, Bool.not_not]
 rw [this]
 cases (g.length : Int) == m.rooms.length <;> cases (g.any fun r => (r.length : Int) != m.hours) <;> rfl
end Go.AM
