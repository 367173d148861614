/-
  A part of the proof: contracts of functions.
-/
import Derived.Test.YtkpbdjpekjdhcaaGreatDoorTAX
set_option linter.unusedSectionVars false
set_option linter.unusedVariables false
set_option linter.unusedSimpArgs false
set_option maxRecDepth 100000
namespace Go.AM
open Go Go.Proofs
variable [Keep]
attribute [local irreducible] W WO WO1 WD WQ WT thenQ blockQ endR isRet retK Cl ClR
open Go.TX (Rm Fa Ha Hs)
attribute [local irreducible] runsB madeR madeF drawnP sumW rowF nowF
set_option maxHeartbeats 400000 in
theorem C195 (c : Itr) (hc : c 195 = none) (a : AV) (g : List (List Int)) (ha : lisV a = some g) (fid : FuncId) (first capt : List AV) (pb : List Int → Bool) (h : Heap)
  (hcall : ∀ b r, slV intC b = some r → r ∈ g → Cl (dX c) fid ((first ++ [b]) ++ capt) h (.ret (.bool (pb r)) h none)) : Cl (dX c) 195 [a, .func (.func fid) first capt] h (.ret (.int .i64 (idxOf pb g)) h none) := by
 refine ClR.cl ?_
 have hlen := lis_len ha
 have hout := lis_out ha
 have hmax := lis_max ha
 have HA := Lib.hid ha
 have HC := Lib.hid hcall
 clear ha hcall
 refine ClR.walk (c := _) hc Tryz.func195 rfl (by kernel_rfl) rfl (fun e => by cases e) ?_
 try simp only [entryEnv, Nat.reduceAdd, List.nil_append, List.cons_append, emptyHp]
 repeat' (first | refine goS ?_ | refine go2 (fun hh => ?_) (fun hh => ?_) | fail)
 refine W.loopH (g.length) [0, 1, 7] [] (fun k e lm => e.get 8 = some (.int .i64 ↑k) ∧ (g.take k).all (fun x => !pb x) = true) ?_ ?_
 ·skip
  refine ⟨?_, ?_⟩
  all_goals first | exact Z2 | (simp [go_sem, *]; done) | skip
  all_goals rfl
 intro k e lm hk0 hce hcl hinv
 simp only [keepE, and_true] at hce
 obtain ⟨c0, c1, c7⟩ := hce
 simp only [go_sem, *, Nat.reduceLT, Int.reduceEq, Int.reduceBEq, Int.reduceLE, Int.reduceLT, Nat.reduceAdd, Nat.reduceBEq, Nat.reduceEqDiff, reduceIte, Nat.reduceLeDiff, Nat.reduceMul, Nat.reduceSub, reduceCtorEq] at c0 c1 c7
 clear hcl
 obtain ⟨h8, hal⟩ := hinv
 by_cases hlt : k < g.length
 ·have hd0 : decide ((k : Int) < ((g.length : Nat) : Int)) = true := by first | (simpa using hlt; done) | (simp only [decide_eq_true_eq]; omega)
  have hv_0 := wrap_succ hlt hmax
  obtain ⟨r, hr⟩ := get_some hlt
  obtain ⟨b, hb1, hb2⟩ := lis_idx HA.out hr
  have hcl := HC.out b r hb1 (List.mem_of_getElem? hr)
  have ob := sl_out hb1
  have hcb := (slV_is hb1).1.cells
  have htb := (slV_is hb1).1.tup
  simp only [AV.cells] at hcb
  simp only [isTuple] at htb
  have hnx := take_next hr
  have HI : pb r = true → idxOf pb g = k := idxOf_at hal hr
  have HH := Lib.hid HI
  have HNX := Lib.hid hnx
  have HAL := Lib.hid hal
  have HLT0 := Lib.hid hlt
  clear hb1 hr hal hnx HI hlt
  cases hq : pb r with
  | true =>
   rw [hq] at hcl
   rw [HH.out hq]
   repeat' (first | (apply U6; exact Z1; exact Z1; (focus (exact hcl)); simp only [pM, pN, rR, rP]) | refine go1 ?_ | refine go2 (fun hh => ?_) (fun hh => ?_) | fail)
   all_goals (simp only [resV_def (X := dX c) Tryz.func195, Tryz.results195]; first | exact J5 | refine J6 ?_)
   all_goals rfl
  | false =>
   rw [hq] at hcl
   repeat' (first | (apply U6; exact Z1; exact Z1; (focus (exact hcl)); simp only [pM, pN, rR, rP]) | refine go1 ?_ | refine go2 (fun hh => ?_) (fun hh => ?_) | fail)
   all_goals refine contH_mk (by first | assumption | exact HLT0.out) (by simp only [keepE, and_true, and_self, go_sem, *, Nat.reduceLT, Int.reduceEq, Int.reduceBEq, Int.reduceLE, Int.reduceLT, Nat.reduceAdd, Nat.reduceBEq, Nat.reduceEqDiff, reduceIte, Nat.reduceLeDiff, Nat.reduceMul, Nat.reduceSub, reduceCtorEq]) (by simp only [keepL, and_true, and_self, go_sem, *, Nat.reduceLT, Int.reduceEq, Int.reduceBEq, Int.reduceLE, Int.reduceLT, Nat.reduceAdd, Nat.reduceBEq, Nat.reduceEqDiff, reduceIte, Nat.reduceLeDiff, Nat.reduceMul, Nat.reduceSub, reduceCtorEq]) ?_
   all_goals refine ⟨?_, ?_⟩
   all_goals first | exact Z2 | skip
   all_goals (rw [HNX.out, List.all_append, HAL.out]; simp [hq])
 ·have hd0 : decide ((k : Int) < ((g.length : Nat) : Int)) = false := by first | (simpa using hlt; done) | (simp only [decide_eq_false_iff_not]; omega)
  obtain rfl : k = g.length := by omega
  rw [List.take_length] at hal
  rw [idxOf_none hal]
  clear hal
  repeat' (first | refine goS ?_ | refine go2 (fun hh => ?_) (fun hh => ?_) | fail)
  all_goals (simp only [resV_def (X := dX c) Tryz.func195, Tryz.results195]; first | exact J5 | refine J6 ?_)
  all_goals rfl
theorem C167 (c : Itr) (hc : c 195 = none) (hc2 : c 167 = none) (a : AV) (g : List (List Int)) (ha : lisV a = some g) (fid : FuncId) (first capt : List AV) (pb : List Int → Bool) (h : Heap)
  (hcall : ∀ b r, slV intC b = some r → r ∈ g → Cl (dX c) fid ((first ++ [b]) ++ capt) h (.ret (.bool (pb r)) h none)) : Cl (dX c) 167 [a, .func (.func fid) first capt] h (.ret (.bool (g.any pb)) h none) := by
 refine ClR.cl ?_
 have hcl := C195 c hc a g ha fid first capt pb h hcall
 have hout := lis_out ha
 have hb := idxOf_any pb g
 clear ha hcall
 refine ClR.walk (c := _) hc2 Tryz.func167 rfl (by kernel_rfl) rfl (fun e => by cases e) ?_
 try simp only [entryEnv, Nat.reduceAdd, List.nil_append, List.cons_append, emptyHp]
 repeat' (first | (apply U6; exact Z1; exact Z1; (focus (exact hcl)); simp only [pM, pN, rR, rP]) | refine go1 ?_ | refine go2 (fun hh => ?_) (fun hh => ?_) | fail)
 all_goals (simp only [resV_def (X := dX c) Tryz.func167, Tryz.results167]; first | exact J5 | refine J6 ?_)
 simp [isR, frzRes, dX_frz, dFrz, hb]
theorem C172 (c : Itr) (hc : c 172 = none) (b : AV) (r : List Int) (hb : slV intC b = some r) (id : Nat) (n : Int) (z1 z2 z3 z4 : AV) (h : Heap) (hg : h.get id = some (.var [.int .i64 n, z1, z2, z3, z4])) :
  Cl (dX c) 172 (([] ++ [b]) ++ [.ptr id 0]) h (.ret (.bool ((r.length : Int) != n)) h none) := by
 refine ClR.cl ?_
 have lb := sl_len hb
 have ob := sl_out hb
 clear hb
 refine ClR.walk (c := _) hc Tryz.func172 rfl (by kernel_rfl) rfl (fun e => by cases e) ?_
 try simp only [entryEnv, Nat.reduceAdd, List.nil_append, List.cons_append, emptyHp]
 repeat' (first | refine goS ?_ | refine go2 (fun hh => ?_) (fun hh => ?_) | fail)
 all_goals (simp only [resV_def (X := dX c) Tryz.func172, Tryz.results172]; first | exact J5 | refine J6 ?_)
 all_goals rfl
def shapeB (m : Hs) (g : List (List Int)) : Bool := ((g.length : Int) == m.rooms.length) && !(g.any fun r => (r.length : Int) != m.hours)
noncomputable def cN1 : Itr
 | 176 => some (pureFn sp176)
 | _ => none
theorem cN1_sound : Sound (dX cN1) := dX_sound (fun f g h => by
 unfold cN1 at h
 split at h
 ·cases h; exact F176
 ·cases h)
def sp126 : List AV → Option AV
 | [x, dv] => match hsV x, lisV dv with
  | some m, some g => some (.bool (shapeB m g))
  | _, _ => none
 | _ => none
theorem p126 : ∀ args v, sp126 args = some v → v.pur = true := by
 intro args v h
 unfold sp126 at h
 split at h
 ·split at h
  ·cases h; rfl
  ·cases h
 ·cases h
set_option maxHeartbeats 2000000 in
theorem F126 : IntrFn Tryz.prog 126 (pureFn sp126) := by
 refine pure_fn (X := dX cN1) cN1_sound p126 ?_
 intro args v h
 unfold sp126 at h
 split at h
 ·rename_i xx dv
  split at h
  ·rename_i m g hm hg
   have h := Option.some.inj h
   subst h
   obtain ⟨ra, fa, oa, ha, rfl, hA⟩ := hs_parts' hm
   have l1 := sl_len hA.r
   have o1 := sl_out hA.r
   have o2 := sl_out hA.f
   have o3 := sl_out hA.o
   have o4 := sl_out hA.h
   have ld := lis_len hg
   have od := lis_out hg
   have hcl : ∀ H : Heap, H.get 0 = some (.var [.int .i64 m.hours, ra, fa, oa, ha]) → Cl (dX cN1) 167 [dv, .func (.func 172) [] [.ptr 0 0]] H (.ret (.bool (g.any fun r => (r.length : Int) != m.hours)) H none) := fun H e => C167 cN1 rfl rfl dv g hg 172 [] [.ptr 0 0] _ H (fun b r hb _ => C172 cN1 rfl b r hb 0 _ _ _ _ _ H e)
   have hcl := hcl ⟨1, Mp.nil.set 0 (.var [.int .i64 m.hours, ra, fa, oa, ha])⟩ (by simp [hp_get])
   unfold shapeB
   clear hm hg hA
   generalize (g.any fun r => (r.length : Int) != m.hours) = ba at *
   cases hq : ((g.length : Int) == m.rooms.length) with
   | true =>
    refine ClR.walk (c := _) rfl Tryz.func126 rfl (by kernel_rfl) rfl isRet_fail ?_
    try simp only [entryEnv, Nat.reduceAdd, List.nil_append, List.cons_append, emptyHp]
    repeat' (first | (apply U6; exact Z1; exact Z1; (focus (exact hcl)); simp only [pM, pN, rR, rP]) | refine go1 ?_ | refine go2 (fun hh => ?_) (fun hh => ?_) | fail)
    all_goals (simp only [resV_def (X := dX cN1) Tryz.func126, Tryz.results126]; first | exact J5 | refine J6 ?_)
    all_goals rfl
   | false =>
    refine ClR.walk (c := _) rfl Tryz.func126 rfl (by kernel_rfl) rfl isRet_fail ?_
    try simp only [entryEnv, Nat.reduceAdd, List.nil_append, List.cons_append, emptyHp]
    repeat' (first | (apply U6; exact Z1; exact Z1; (focus (exact hcl)); simp only [pM, pN, rR, rP]) | refine go1 ?_ | refine go2 (fun hh => ?_) (fun hh => ?_) | fail)
    all_goals (simp only [resV_def (X := dX cN1) Tryz.func126, Tryz.results126]; first | exact J5 | refine J6 ?_)
    all_goals rfl
  ·cases h
 ·cases h
end Go.AM
