/-
  A part of the proof: contracts of functions.
-/
import Derived.Test.YtkpbdjpekjdhcaaGreatDoorRAX
import Derived.Test.YtkpbdjpekjdhcaaGreatDoorRAI
set_option linter.unusedSectionVars false
set_option linter.unusedVariables false
set_option linter.unusedSimpArgs false
set_option maxRecDepth 100000
namespace Go.AM
open Go Go.Proofs
variable [Keep]
attribute [local irreducible] W WO WO1 WD WQ WT thenQ blockQ endR isRet retK Cl ClR
open Go.TX (Rm Fa Ha Hs)
attribute [local irreducible] runsB madeR madeF drawnP sumW rowF nowF
set_option maxHeartbeats 400000 in
theorem C195 (c : Itr) (hc : c 195 = none) (a : AV) (g : List (List Int)) (ha : lisV a = some g) (fid : FuncId) (first capt : List AV) (pb : List Int → Bool) (h : Heap)
  (hcall : ∀ b r, slV intC b = some r → r ∈ g → Cl (dX c) fid ((first ++ [b]) ++ capt) h (.ret (.bool (pb r)) h none)) : Cl (dX c) 195 [a, .func (.func fid) first capt] h (.ret (.int .i64 (idxOf pb g)) h none) := by
 refine ClR.cl ?_
 have hlen := lis_len ha
 have hout := lis_out ha
 have hmax := lis_max ha
 have HA := Lib.hid ha
 have HC := Lib.hid hcall
 clear ha hcall
 refine ClR.walk (c := _) hc Tryz.func195 rfl (by kernel_rfl) rfl (fun e => by cases e) ?_
 try simp only [entryEnv, Nat.reduceAdd, List.nil_append, List.cons_append, emptyHp]
 repeat' (first | refine goS ?_ | refine go2 (fun hh => ?_) (fun hh => ?_) | fail)
 refine W.loopH (g.length) [0, 1, 7] [] (fun k e lm => e.get 8 = some (.int .i64 ↑k) ∧ (g.take k).all (fun x => !pb x) = true) ?_ ?_
 ·skip
  refine ⟨?_, ?_⟩
  all_goals first | exact Z2 | (simp [go_sem, *]; done) | skip
  all_goals rfl
 intro k e lm hk0 hce hcl hinv
 simp only [keepE, and_true] at hce
 obtain ⟨c0, c1, c7⟩ := hce
 simp only [go_sem, *, Nat.reduceLT, Int.reduceEq, Int.reduceBEq, Int.reduceLE, Int.reduceLT, Nat.reduceAdd, Nat.reduceBEq, Nat.reduceEqDiff, reduceIte, Nat.reduceLeDiff, Nat.reduceMul, Nat.reduceSub, reduceCtorEq] at c0 c1 c7
 clear hcl
 obtain ⟨h8, hal⟩ := hinv
 by_cases hlt : k < g.length
 ·have hd0 : decide ((k : Int) < ((g.length : Nat) : Int)) = true := by first | (simpa using hlt; done) | (simp only [decide_eq_true_eq]; omega)
  have hv_0 := wrap_succ hlt hmax
  obtain ⟨r, hr⟩ := get_some hlt
  obtain ⟨b, hb1, hb2⟩ := lis_idx HA.out hr
  have hcl := HC.out b r hb1 (List.mem_of_getElem? hr)
  have ob := sl_out hb1
  have hcb := (slV_is hb1).1.cells
  have htb := (slV_is hb1).1.tup
  simp only [AV.cells] at hcb
  simp only [isTuple] at htb
  have hnx := take_next hr
  have HI : pb r = true → idxOf pb g = k := idxOf_at hal hr
  have HH := Lib.hid HI
  have HNX := Lib.hid hnx
  have HAL := Lib.hid hal
  have HLT0 := Lib.hid hlt
  clear hb1 hr hal hnx HI hlt
  cases hq : pb r with
  | true =>
   rw [hq] at hcl
   rw [HH.out hq]
   repeat' (first | (apply U6; exact Z1; exact Z1; (focus (exact hcl)); simp only [pM, pN, rR, rP]) | refine go1 ?_ | refine go2 (fun hh => ?_) (fun hh => ?_) | fail)
   all_goals (simp only [resV_def (X := dX c) Tryz.func195, Tryz.results195]; first | exact J5 | refine J6 ?_)
   all_goals rfl
  | false =>
   rw [hq] at hcl
   repeat' (first | (apply U6; exact Z1; exact Z1; (focus (exact hcl)); simp only [pM, pN, rR, rP]) | refine go1 ?_ | refine go2 (fun hh => ?_) (fun hh => ?_) | fail)
   all_goals refine contH_mk (by first | assumption | exact HLT0.out) (by simp only [keepE, and_true, and_self, go_sem, *, Nat.reduceLT, Int.reduceEq, Int.reduceBEq, Int.reduceLE, Int.reduceLT, Nat.reduceAdd, Nat.reduceBEq, Nat.reduceEqDiff, reduceIte, Nat.reduceLeDiff, Nat.reduceMul, Nat.reduceSub, reduceCtorEq]) (by simp only [keepL, and_true, and_self, go_sem, *, Nat.reduceLT, Int.reduceEq, Int.reduceBEq, Int.reduceLE, Int.reduceLT, Nat.reduceAdd, Nat.reduceBEq, Nat.reduceEqDiff, reduceIte, Nat.reduceLeDiff, Nat.reduceMul, Nat.reduceSub, reduceCtorEq]) ?_
   all_goals refine ⟨?_, ?_⟩
   all_goals first | exact Z2 | skip
   all_goals (rw [HNX.out, List.all_append, HAL.out]; simp [hq])
 ·have hd0 : decide ((k : Int) < ((g.length : Nat) : Int)) = false := by first | (simpa using hlt; done) | (simp only [decide_eq_false_iff_not]; omega)
  obtain rfl : k = g.length := by omega
  rw [List.take_length] at hal
  rw [idxOf_none hal]
  clear hal
  repeat' (first | refine goS ?_ | refine go2 (fun hh => ?_) (fun hh => ?_) | fail)
  all_goals (simp only [resV_def (X := dX c) Tryz.func195, Tryz.results195]; first | exact J5 | refine J6 ?_)
  all_goals rfl
theorem C167 (c : Itr) (hc : c 195 = none) (hc2 : c 167 = none) (a : AV) (g : List (List Int)) (ha : lisV a = some g) (fid : FuncId) (first capt : List AV) (pb : List Int → Bool) (h : Heap)
  (hcall : ∀ b r, slV intC b = some r → r ∈ g → Cl (dX c) fid ((first ++ [b]) ++ capt) h (.ret (.bool (pb r)) h none)) : Cl (dX c) 167 [a, .func (.func fid) first capt] h (.ret (.bool (g.any pb)) h none) := by
 refine ClR.cl ?_
 have hcl := C195 c hc a g ha fid first capt pb h hcall
 have hout := lis_out ha
 have hb := idxOf_any pb g
 clear ha hcall
 refine ClR.walk (c := _) hc2 Tryz.func167 rfl (by kernel_rfl) rfl (fun e => by cases e) ?_
 try simp only [entryEnv, Nat.reduceAdd, List.nil_append, List.cons_append, emptyHp]
 repeat' (first | (apply U6; exact Z1; exact Z1; (focus (exact hcl)); simp only [pM, pN, rR, rP]) | refine go1 ?_ | refine go2 (fun hh => ?_) (fun hh => ?_) | fail)
 all_goals (simp only [resV_def (X := dX c) Tryz.func167, Tryz.results167]; first | exact J5 | refine J6 ?_)
 simp [isR, frzRes, dX_frz, dFrz, hb]
theorem C172 (c : Itr) (hc : c 172 = none) (b : AV) (r : List Int) (hb : slV intC b = some r) (id : Nat) (n : Int) (z1 z2 z3 z4 : AV) (h : Heap) (hg : h.get id = some (.var [.int .i64 n, z1, z2, z3, z4])) :
  Cl (dX c) 172 (([] ++ [b]) ++ [.ptr id 0]) h (.ret (.bool ((r.length : Int) != n)) h none) := by
 refine ClR.cl ?_
 have lb := sl_len hb
 have ob := sl_out hb
 clear hb
 refine ClR.walk (c := _) hc Tryz.func172 rfl (by kernel_rfl) rfl (fun e => by cases e) ?_
 try simp only [entryEnv, Nat.reduceAdd, List.nil_append, List.cons_append, emptyHp]
 repeat' (first | refine goS ?_ | refine go2 (fun hh => ?_) (fun hh => ?_) | fail)
 all_goals (simp only [resV_def (X := dX c) Tryz.func172, Tryz.results172]; first | exact J5 | refine J6 ?_)
 all_goals rfl
def shapeB (m : Hs) (g : List (List Int)) : Bool := ((g.length : Int) == m.rooms.length) && !(g.any fun r => (r.length : Int) != m.hours)
noncomputable def cN1 : Itr
 | 176 => some (pureFn sp176)
 | _ => none
theorem cN1_sound : Sound (dX cN1) := dX_sound (fun f g h => by
 unfold cN1 at h
 split at h
 ·cases h; exact F176
 ·cases h)
def sp126 : List AV → Option AV
 | [x, dv] => match hsV x, lisV dv with
  | some m, some g => some (.bool (shapeB m g))
  | _, _ => none
 | _ => none
theorem p126 : ∀ args v, sp126 args = some v → v.pur = true := by
 intro args v h
 unfold sp126 at h
 split at h
 ·split at h
  ·cases h; rfl
  ·cases h
 ·cases h
set_option maxHeartbeats 2000000 in
theorem F126 : IntrFn Tryz.prog 126 (pureFn sp126) := by
 refine pure_fn (X := dX cN1) cN1_sound p126 ?_
 intro args v h
 unfold sp126 at h
 split at h
 ·rename_i xx dv
  split at h
  ·rename_i m g hm hg
   have h := Option.some.inj h
   subst h
   obtain ⟨ra, fa, oa, ha, rfl, hA⟩ := hs_parts' hm
   have l1 := sl_len hA.r
   have o1 := sl_out hA.r
   have o2 := sl_out hA.f
   have o3 := sl_out hA.o
   have o4 := sl_out hA.h
   have ld := lis_len hg
   have od := lis_out hg
   have hcl : ∀ H : Heap, H.get 0 = some (.var [.int .i64 m.hours, ra, fa, oa, ha]) → Cl (dX cN1) 167 [dv, .func (.func 172) [] [.ptr 0 0]] H (.ret (.bool (g.any fun r => (r.length : Int) != m.hours)) H none) := fun H e => C167 cN1 rfl rfl dv g hg 172 [] [.ptr 0 0] _ H (fun b r hb _ => C172 cN1 rfl b r hb 0 _ _ _ _ _ H e)
   have hcl := hcl ⟨1, Mp.nil.set 0 (.var [.int .i64 m.hours, ra, fa, oa, ha])⟩ (by simp [hp_get])
   unfold shapeB
   clear hm hg hA
   generalize (g.any fun r => (r.length : Int) != m.hours) = ba at *
   cases hq : ((g.length : Int) == m.rooms.length) with
   | true =>
    refine ClR.walk (c := _) rfl Tryz.func126 rfl (by kernel_rfl) rfl isRet_fail ?_
    try simp only [entryEnv, Nat.reduceAdd, List.nil_append, List.cons_append, emptyHp]
    repeat' (first | (apply U6; exact Z1; exact Z1; (focus (exact hcl)); simp only [pM, pN, rR, rP]) | refine go1 ?_ | refine go2 (fun hh => ?_) (fun hh => ?_) | fail)
    all_goals (simp only [resV_def (X := dX cN1) Tryz.func126, Tryz.results126]; first | exact J5 | refine J6 ?_)
    all_goals rfl
   | false =>
    refine ClR.walk (c := _) rfl Tryz.func126 rfl (by kernel_rfl) rfl isRet_fail ?_
    try simp only [entryEnv, Nat.reduceAdd, List.nil_append, List.cons_append, emptyHp]
    repeat' (first | (apply U6; exact Z1; exact Z1; (focus (exact hcl)); simp only [pM, pN, rR, rP]) | refine go1 ?_ | refine go2 (fun hh => ?_) (fun hh => ?_) | fail)
    all_goals (simp only [resV_def (X := dX cN1) Tryz.func126, Tryz.results126]; first | exact J5 | refine J6 ?_)
    all_goals rfl
  ·cases h
 ·cases h
end Go.AM
namespace Go.AM
open Go Go.Proofs
variable [Keep]
attribute [local irreducible] W WO WO1 WD WQ WT thenQ blockQ endR isRet retK Cl ClR
open Go.TX (Rm Fa Ha Hs)
def pathB (m : Hs) (p : List Int) : Bool := ((p.length : Int) == m.hours) && p.all fun r => inB r (-1) (w64 (m.rooms.length - 1))
def walkR (b : Bool) (h : Heap) (r : COut) : Prop := if b = true then r = .ret (.tuple []) h none else ∃ x, r = .pan (.iface 205 (.agg [.int .i64 x])) h none
theorem walkR_fail {b : Bool} {h : Heap} : ¬ walkR b h .fail := by
 unfold walkR
 split
 ·intro e; cases e
 ·rintro ⟨_, e⟩; cases e
attribute [local irreducible] walkR
theorem walkR_t {h : Heap} : walkR true h (.ret (.tuple []) h none) := by unfold walkR; simp
theorem walkR_f {h : Heap} {x : Int} : walkR false h (.pan (.iface 205 (.agg [.int .i64 x])) h none) := by unfold walkR; simp
section
variable {c : Itr}
set_option maxHeartbeats 4000000 in
theorem C170 (h170 : c 170 = none) (h102 : c 102 = some (pureFn sp102)) (m : Hs) (ra fa oa ha pa : AV) (p : List Int) (hm : HsA m ra fa oa ha) (hp : slV intC pa = some p) (h : Heap) :
  ClR (dX c) 170 [.agg [.int .i64 m.hours, ra, fa, oa, ha], pa] h (walkR (pathB m p) h) := by
 have l1 := sl_len hm.r
 have o1 := sl_out hm.r
 have o2 := sl_out hm.f
 have o3 := sl_out hm.o
 have o4 := sl_out hm.h
 have lp := sl_len hp
 have op := sl_out hp
 have mp := sl_max hp
 have HP := Lib.hid hp
 have k102 := fun x h => K102 (X := dX c) h102 x (-1) (IntKind.i64.wrap (m.rooms.length - 1)) h
 have K1 := Lib.hid k102
 have hS : pathB m p = (((p.length : Int) == m.hours) && p.all fun r => inB r (-1) (IntKind.i64.wrap (m.rooms.length - 1))) := rfl
 rw [hS]
 clear hm hp k102 hS
 cases hq : ((p.length : Int) == m.hours) with
 | false =>
  have hq' : ((p.length : Int) != m.hours) = true := by rw [bne, hq]; rfl
  rw [Bool.false_and]
  refine ClR.walk (c := _) h170 Tryz.func170 rfl (by kernel_rfl) rfl walkR_fail ?_
  try simp only [entryEnv, Nat.reduceAdd, List.nil_append, List.cons_append, emptyHp]
  repeat' (first | (apply WO1.panic; exact rfl; (focus (intro cl rd; simp only [go_sem, *, Nat.reduceLT, Int.reduceEq, Int.reduceBEq, Int.reduceLE, Int.reduceLT, Nat.reduceAdd, Nat.reduceBEq, Nat.reduceEqDiff, reduceIte, Nat.reduceLeDiff, Nat.reduceMul, Nat.reduceSub, reduceCtorEq, efV, Fr.panicE]; with_reducible rfl)); simp only [tP, bP, eP, true_and]) | refine go1 ?_ | refine go2 (fun hh => ?_) (fun hh => ?_) | fail)
  all_goals exact walkR_f
 | true =>
  have hq' : ((p.length : Int) != m.hours) = false := by rw [bne, hq]; rfl
  rw [Bool.true_and]
  refine ClR.walk (c := _) h170 Tryz.func170 rfl (by kernel_rfl) rfl walkR_fail ?_
  try simp only [entryEnv, Nat.reduceAdd, List.nil_append, List.cons_append, emptyHp]
  repeat' (first | (apply WO1.panic; exact rfl; (focus (intro cl rd; simp only [go_sem, *, Nat.reduceLT, Int.reduceEq, Int.reduceBEq, Int.reduceLE, Int.reduceLT, Nat.reduceAdd, Nat.reduceBEq, Nat.reduceEqDiff, reduceIte, Nat.reduceLeDiff, Nat.reduceMul, Nat.reduceSub, reduceCtorEq, efV, Fr.panicE]; with_reducible rfl)); simp only [tP, bP, eP, true_and]) | refine go1 ?_ | refine go2 (fun hh => ?_) (fun hh => ?_) | fail)
  refine W.loopH (p.length) [2, 15, 16] [2] (fun k e lm => e.get 17 = some (.int .i64 ↑k) ∧ (p.take k).all (fun r => inB r (-1) (IntKind.i64.wrap (m.rooms.length - 1))) = true) ?_ ?_
  ·skip
   refine ⟨?_, ?_⟩
   all_goals first | exact Z2 | (simp [go_sem, *]; done) | skip
   all_goals rfl
  intro k e lm hk0 hce hcl hinv
  simp only [keepE, and_true] at hce
  obtain ⟨c2, c15, c16⟩ := hce
  simp only [go_sem, *, Nat.reduceLT, Int.reduceEq, Int.reduceBEq, Int.reduceLE, Int.reduceLT, Nat.reduceAdd, Nat.reduceBEq, Nat.reduceEqDiff, reduceIte, Nat.reduceLeDiff, Nat.reduceMul, Nat.reduceSub, reduceCtorEq] at c2 c15 c16
  simp only [keepL, and_true] at hcl
  have d2 := hcl
  clear hcl
  simp only [go_sem, *, Nat.reduceLT, Int.reduceEq, Int.reduceBEq, Int.reduceLE, Int.reduceLT, Nat.reduceAdd, Nat.reduceBEq, Nat.reduceEqDiff, reduceIte, Nat.reduceLeDiff, Nat.reduceMul, Nat.reduceSub, reduceCtorEq] at d2
  obtain ⟨h17, hal⟩ := hinv
  by_cases hlt : k < p.length
  ·have hd0 : decide ((k : Int) < ((p.length : Nat) : Int)) = true := by first | (simpa using hlt; done) | (simp only [decide_eq_true_eq]; omega)
   have hv_0 := wrap_succ hlt mp
   obtain ⟨n, hn⟩ := get_some hlt
   have hix := fun H => ints_idx HP.out hn H
   have hnx := all_at hn hal
   have k102 := K1.out n
   have HNX := Lib.hid hnx
   have HNN := Lib.hid hn
   have HLT0 := Lib.hid hlt
   clear hn hnx hal hlt
   cases hb : inB n (-1) (IntKind.i64.wrap (m.rooms.length - 1)) with
   | true =>
    rw [hb] at k102
    repeat' (first | (apply WO1.panic; exact rfl; (focus (intro cl rd; simp only [go_sem, *, Nat.reduceLT, Int.reduceEq, Int.reduceBEq, Int.reduceLE, Int.reduceLT, Nat.reduceAdd, Nat.reduceBEq, Nat.reduceEqDiff, reduceIte, Nat.reduceLeDiff, Nat.reduceMul, Nat.reduceSub, reduceCtorEq, efV, Fr.panicE]; with_reducible rfl)); simp only [tP, bP, eP, true_and]) | refine go1 ?_ | (apply U6; exact Z1; exact Z1; (focus (simp only [List.nil_append, List.append_nil]; first | exact k102 _)); simp only [pM, pN, rR, rP]) | refine go2 (fun hh => ?_) (fun hh => ?_) | fail)
    all_goals refine contH_mk (by first | assumption | exact HLT0.out) (by simp only [keepE, and_true, and_self, go_sem, *, Nat.reduceLT, Int.reduceEq, Int.reduceBEq, Int.reduceLE, Int.reduceLT, Nat.reduceAdd, Nat.reduceBEq, Nat.reduceEqDiff, reduceIte, Nat.reduceLeDiff, Nat.reduceMul, Nat.reduceSub, reduceCtorEq]) (by simp only [keepL, and_true, and_self, go_sem, *, Nat.reduceLT, Int.reduceEq, Int.reduceBEq, Int.reduceLE, Int.reduceLT, Nat.reduceAdd, Nat.reduceBEq, Nat.reduceEqDiff, reduceIte, Nat.reduceLeDiff, Nat.reduceMul, Nat.reduceSub, reduceCtorEq]) ?_
    all_goals refine ⟨?_, ?_⟩
    all_goals first | exact Z2 | skip
    all_goals exact HNX.out.trans hb
   | false =>
    rw [hb] at k102
    have hno : (p.all fun r => inB r (-1) (IntKind.i64.wrap (m.rooms.length - 1))) = false := by
     rw [List.all_eq_false]
     exact ⟨n, List.mem_of_getElem? HNN.out, by rw [hb]; simp⟩
    rw [hno]
    clear hno
    repeat' (first | (apply WO1.panic; exact rfl; (focus (intro cl rd; simp only [go_sem, *, Nat.reduceLT, Int.reduceEq, Int.reduceBEq, Int.reduceLE, Int.reduceLT, Nat.reduceAdd, Nat.reduceBEq, Nat.reduceEqDiff, reduceIte, Nat.reduceLeDiff, Nat.reduceMul, Nat.reduceSub, reduceCtorEq, efV, Fr.panicE]; with_reducible rfl)); simp only [tP, bP, eP, true_and]) | refine go1 ?_ | (apply U6; exact Z1; exact Z1; (focus (simp only [List.nil_append, List.append_nil]; first | exact k102 _)); simp only [pM, pN, rR, rP]) | refine go2 (fun hh => ?_) (fun hh => ?_) | fail)
    all_goals exact walkR_f
  ·have hd0 : decide ((k : Int) < ((p.length : Nat) : Int)) = false := by first | (simpa using hlt; done) | (simp only [decide_eq_false_iff_not]; omega)
   obtain rfl : k = p.length := by omega
   rw [List.take_length] at hal
   rw [hal]
   clear hal
   repeat' (first | refine goS ?_ | refine go2 (fun hh => ?_) (fun hh => ?_) | fail)
   all_goals (simp only [eN])
   all_goals (simp only [resV_def (X := dX c) Tryz.func170, Tryz.results170]; first | exact J5 | refine J6 ?_)
   all_goals first | exact walkR_t | exact ⟨rfl, walkR_t⟩
end
noncomputable def cNS : Itr
 | 102 => some (pureFn sp102)
 | _ => none
theorem cNS_sound : Sound (dX cNS) := dX_sound (fun f g h => by
 unfold cNS at h
 split at h
 ·cases h; exact F102
 ·cases h)
def sp123 : List AV → Option AV
 | [x, pa] => match hsV x, slV intC pa with
  | some m, some p => some (.bool (pathB m p))
  | _, _ => none
 | _ => none
theorem p123 : ∀ args v, sp123 args = some v → v.pur = true := by
 intro args v h
 unfold sp123 at h
 split at h
 ·split at h
  ·cases h; rfl
  ·cases h
 ·cases h
set_option maxHeartbeats 2000000 in
theorem F123 : IntrFn Tryz.prog 123 (pureFn sp123) := by
 refine pure_fn (X := dX cNS) cNS_sound p123 ?_
 intro args v h
 unfold sp123 at h
 split at h
 ·rename_i xx pa
  split at h
  ·rename_i m p hm hp
   have h := Option.some.inj h
   subst h
   obtain ⟨ra, fa, oa, ha, rfl, hA⟩ := hs_parts' hm
   have o1 := sl_out hA.r
   have o2 := sl_out hA.f
   have o3 := sl_out hA.o
   have o4 := sl_out hA.h
   have op := sl_out hp
   have hcp := (slV_is hp).1.cells
   have htp := (slV_is hp).1.tup
   simp only [AV.cells] at hcp
   simp only [isTuple] at htp
   obtain ⟨mm, hmm⟩ : ∃ mm : Mp Blk, mm = (((Mp.nil : Mp Blk).set 0 (.var [.int .i64 m.hours, ra, fa, oa, ha])).set 1 (.var [pa])).set 2 (.var [.int .i64 0]) := ⟨_, rfl⟩
   have g0 : mm.get 0 = some (.var [.int .i64 m.hours, ra, fa, oa, ha]) := by rw [hmm]; simp
   have g1 : mm.get 1 = some (.var [pa]) := by rw [hmm]; simp
   have g2 : mm.get 2 = some (.var [.int .i64 0]) := by rw [hmm]; simp
   have hw := C170 (c := cNS) rfl rfl m ra fa oa ha pa p hA hp ⟨3, mm⟩
   unfold ClR walkR at hw
   obtain ⟨r, hcl, hr⟩ := hw
   clear hm hA hp
   cases hb : pathB m p with
   | true =>
    rw [hb] at hr
    simp only [if_true] at hr
    subst hr
    have h169 : Cl (dX cNS) 169 [.ptr 0 0, .ptr 1 0] ⟨3, mm⟩ (.ret (.tuple []) ⟨3, mm⟩ none) := by
     refine ClR.cl ?_
     clear hmm g2
     refine ClR.walk (c := _) rfl Tryz.func169 rfl (by kernel_rfl) rfl (fun e => by cases e) ?_
     try simp only [entryEnv, Nat.reduceAdd, List.nil_append, List.cons_append, emptyHp]
     repeat' (first | refine goS ?_ | (apply U6; exact Z1; exact Z1; (focus (simp only [List.nil_append, List.append_nil]; first | exact hcl)); simp only [pM, pN, rR, rP]) | refine go2 (fun hh => ?_) (fun hh => ?_) | fail)
     all_goals (first | simp only [eN, true_and] | skip)
     all_goals (simp only [resV_def (X := dX cNS) Tryz.func169, Tryz.results169]; first | exact J5 | refine J6 ?_)
     all_goals rfl
    rw [hmm] at h169
    have ht := C111n cNS rfl 169 [.ptr 0 0, .ptr 1 0] 2 _ 3 mm 0 (by rw [hmm]; exact h169) g2
    unfold ClR tryR at ht
    obtain ⟨r, hct, ⟨yn, ym⟩, rfl, hy1, hy2⟩ := ht
    have q0 : ((0 : Int) == 0) = true := rfl
    clear hcl h169 g0 g1 g2 hmm hy1 hy2
    refine ClR.walk (c := _) rfl Tryz.func123 rfl (by kernel_rfl) rfl isRet_fail ?_
    try simp only [entryEnv, Nat.reduceAdd, List.nil_append, List.cons_append, emptyHp]
    repeat' (first | refine goS ?_ | (apply U6; exact Z1; exact Z1; (focus (simp only [List.nil_append, List.append_nil]; first | exact hct)); simp only [pM, pN, rR, rP]) | refine go2 (fun hh => ?_) (fun hh => ?_) | fail)
    all_goals (simp only [resV_def (X := dX cNS) Tryz.func123, Tryz.results123]; first | exact J5 | refine J6 ?_)
    all_goals rfl
   | false =>
    rw [hb] at hr
    simp only [Bool.false_eq_true, if_false] at hr
    obtain ⟨x, rfl⟩ := hr
    have h169 : Cl (dX cNS) 169 [.ptr 0 0, .ptr 1 0] ⟨3, mm⟩ (.pan (.iface 205 (.agg [.int .i64 x])) ⟨3, mm⟩ none) := by
     refine ClR.cl ?_
     clear hmm g2
     refine ClR.walk (c := _) rfl Tryz.func169 rfl (by kernel_rfl) rfl (fun e => by cases e) ?_
     try simp only [entryEnv, Nat.reduceAdd, List.nil_append, List.cons_append, emptyHp]
     repeat' (first | (simp only [tP, bP, eP, true_and]) | refine go1 ?_ | (apply U6; exact Z1; exact Z1; (focus (simp only [List.nil_append, List.append_nil]; first | exact hcl)); simp only [pM, pN, rR, rP]) | refine go2 (fun hh => ?_) (fun hh => ?_) | fail)
     all_goals rfl
    rw [hmm] at h169
    have ht := C111w cNS rfl 169 [.ptr 0 0, .ptr 1 0] 2 _ 3 mm x 0 (by rw [hmm]; exact h169) g2
    unfold ClR tryR at ht
    obtain ⟨r, hct, ⟨yn, ym⟩, rfl, hy1, hy2⟩ := ht
    have q0 : ((2 : Int) == 0) = false := rfl
    clear hcl h169 g0 g1 g2 hmm hy1 hy2
    refine ClR.walk (c := _) rfl Tryz.func123 rfl (by kernel_rfl) rfl isRet_fail ?_
    try simp only [entryEnv, Nat.reduceAdd, List.nil_append, List.cons_append, emptyHp]
    repeat' (first | refine goS ?_ | (apply U6; exact Z1; exact Z1; (focus (simp only [List.nil_append, List.append_nil]; first | exact hct)); simp only [pM, pN, rR, rP]) | refine go2 (fun hh => ?_) (fun hh => ?_) | fail)
    all_goals (simp only [resV_def (X := dX cNS) Tryz.func123, Tryz.results123]; first | exact J5 | refine J6 ?_)
    all_goals rfl
  ·cases h
 ·cases h
theorem K123 {X : Ctx} (hX : X.intr 123 = some (pureFn sp123)) {m : Hs} {ra fa oa ha pa : AV} {p : List Int} (hm : HsA m ra fa oa ha) (hp : slV intC pa = some p) (h : Heap) : Cl X 123 [.agg [.int .i64 m.hours, ra, fa, oa, ha], pa] h (.ret (.bool (pathB m p)) h none) :=
 Cl.intr hX (by
  have h1 := hm.pur
  have h2 := hm.hs
  simp only [pureFn, AV.purL, h1, sl_pur hp, Bool.and_self, if_true, sp123, h2, hp])
end Go.AM
