/-
  A part of the proof: contracts of functions.
-/
import Derived.Test.YtkpbdjpekjdhcaaGreatDoorUAI
set_option linter.unusedSectionVars false
set_option linter.unusedVariables false
set_option linter.unusedSimpArgs false
set_option maxRecDepth 100000
namespace Go.AM
open Go Go.Proofs
variable [Keep]
attribute [local irreducible] W WO WO1 WD WQ WT thenQ blockQ endR isRet retK Cl ClR
open Go.TX (Rm Fa Ha Hs)
def sp85 : List AV → Option AV
 | [.int .i64 n] => if (decide (0 ≤ n) && decide (n ≤ 60)) = true then some (.int .i64 (2 ^ n.toNat)) else none
 | _ => none
theorem p85 : ∀ args v, sp85 args = some v → v.pur = true := by
 intro args v h
 unfold sp85 at h
 split at h
 ·split at h <;> cases h; rfl
 ·cases h
theorem pow_le {k : Nat} (h : k ≤ 60) : (0 : Int) < 2 ^ k ∧ (2 : Int) ^ k ≤ 1152921504606846976 := by
 have h1 : (2 : Nat) ^ k ≤ 2 ^ 60 := Nat.pow_le_pow_right (by decide) h
 have h2 : 0 < (2 : Nat) ^ k := Nat.pow_pos (by decide)
 have h3 : ((2 : Nat) ^ 60 : Nat) = 1152921504606846976 := by decide
 have h4 : (2 : Int) ^ k = ((2 ^ k : Nat) : Int) := by simp
 omega
theorem F85 : IntrFn Tryz.prog 85 (pureFn sp85) := by
 refine pure_fn (X := dX i0) i0_sound p85 ?_
 intro args v h
 unfold sp85 at h
 split at h
 ·rename_i n
  split at h
  ·rename_i hg
   cases h
   simp only [Bool.and_eq_true, decide_eq_true_eq] at hg
   obtain ⟨n, rfl⟩ : ∃ m : Nat, n = m := ⟨n.toNat, by omega⟩
   have hn : n ≤ 60 := by omega
   rw [Int.toNat_natCast]
   clear hg
   refine ClR.walk (c := _) rfl Tryz.func85 rfl (by kernel_rfl) rfl isRet_fail ?_
   simp only [entryEnv, Nat.reduceAdd]
   repeat' (first | refine goS ?_ | refine go2 (fun hh => ?_) (fun hh => ?_) | fail)
   refine W.loopH (n) [0] [] (fun k e lm => e.get 4 = some (.int .i64 ↑k) ∧ e.get 3 = some (.int .i64 (2 ^ k))) ?_ ?_
   ·refine ⟨?_, ?_⟩ <;> first | exact Z2 | rfl | assumption | (simp [go_sem, *]; done)
   intro k e lm hk0 hce hcl hinv
   simp only [keepE, and_true] at hce
   have c0 := hce
   clear hce
   simp only [go_sem, *, Nat.reduceLT, Int.reduceEq, Int.reduceBEq, Int.reduceLE, Int.reduceLT, Nat.reduceAdd, Nat.reduceBEq, Nat.reduceEqDiff, reduceIte, Nat.reduceLeDiff, Nat.reduceMul, Nat.reduceSub, reduceCtorEq] at c0
   clear hcl
   obtain ⟨h4, h3⟩ := hinv
   by_cases hlt : k < n
   ·have hd0 : decide ((k : Int) < ((n : Nat) : Int)) = true := by simpa using hlt
    have hv_0 := wrap_succ hlt (by unfold maxL; omega)
    have hp := pow_le (k := k + 1) (by omega)
    have e1 : (2 : Int) ^ (k + 1) = 2 * 2 ^ k := by rw [Int.pow_succ, Int.mul_comm]
    have hm : IntKind.i64.wrap (2 * 2 ^ k) = 2 ^ (k + 1) := by rw [← e1]; exact wrap_small (by omega) (by omega)
    clear hp e1
    repeat' (first | refine goS ?_ | refine go2 (fun hh => ?_) (fun hh => ?_) | fail)
    all_goals refine contH_mk (by first | assumption | exact HLT0.out) (by simp only [keepE, and_true, and_self, go_sem, *, Nat.reduceLT, Int.reduceEq, Int.reduceBEq, Int.reduceLE, Int.reduceLT, Nat.reduceAdd, Nat.reduceBEq, Nat.reduceEqDiff, reduceIte, Nat.reduceLeDiff, Nat.reduceMul, Nat.reduceSub, reduceCtorEq]) (by simp only [keepL, and_true, and_self, go_sem, *, Nat.reduceLT, Int.reduceEq, Int.reduceBEq, Int.reduceLE, Int.reduceLT, Nat.reduceAdd, Nat.reduceBEq, Nat.reduceEqDiff, reduceIte, Nat.reduceLeDiff, Nat.reduceMul, Nat.reduceSub, reduceCtorEq]) ?_
    all_goals refine ⟨?_, ?_⟩
    all_goals first | exact Z2 | skip
   ·have hd0 : decide ((k : Int) < ((n : Nat) : Int)) = false := by simpa using hlt
    obtain rfl : k = n := by omega
    repeat' (first | refine goS ?_ | refine go2 (fun hh => ?_) (fun hh => ?_) | fail)
    all_goals (simp only [resV_def (X := dX i0) Tryz.func85, Tryz.results85]; first | exact J5 | refine J6 ?_)
    all_goals rfl
  ·cases h
 ·cases h
theorem K85 {X : Ctx} (hX : X.intr 85 = some (pureFn sp85)) (n : Nat) (hn : n ≤ 60) (h : Heap) : Cl X 85 [.int .i64 (n : Int)] h (.ret (.int .i64 (2 ^ n)) h none) :=
 Cl.intr hX (by
  have : (decide (0 ≤ (n : Int)) && decide ((n : Int) ≤ 60)) = true := by simp only [Bool.and_eq_true, decide_eq_true_eq]; omega
  simp only [pureFn, AV.purL, AV.pur, Bool.and_self, if_true, sp85, this, Int.toNat_natCast])
noncomputable def cZE : Itr
 | 84 => some (pureFn sp84)
 | 85 => some (pureFn sp85)
 | _ => none
theorem cZE_sound : Sound (dX cZE) := dX_sound (fun f g h => by
 unfold cZE at h
 split at h
 ·cases h; exact F84
 ·cases h; exact F85
 ·cases h)
theorem any_next {α : Type} {l : List α} {k : Nat} {p : α} {f : α → Bool} (h : l[k]? = some p) : (l.take (k + 1)).any f = ((l.take k).any f || f p) := by rw [take_next h]; simp
theorem any_mem {α : Type} {l : List α} {k : Nat} {p : α} {f : α → Bool} (h : l[k]? = some p) (hf : f p = true) : l.any f = true := List.any_eq_true.2 ⟨p, List.mem_of_getElem? h, hf⟩
set_option maxHeartbeats 4000000 in
theorem R24 : ∀ args v, sp82 args = some v → ClR (dX cZE) 24 args emptyHp (isRet v) := by
 intro args v h
 unfold sp82 at h
 split at h
 ·rename_i x
  simp only [Option.map_eq_some_iff] at h
  obtain ⟨hs, hh, rfl⟩ := h
  obtain ⟨ra, fa, oa, ha, rfl, v1, v2, v3, v4⟩ := hsV_is hh
  obtain ⟨n, rs, fs, os, hds⟩ := hs
  simp only at v1 v2 v3 v4
  have l1 := sl_len v1
  have l2 := sl_len v2
  have l3 := sl_len v3
  have l4 := sl_len v4
  have o1 := sl_out v1
  have o2 := sl_out v2
  have o3 := sl_out v3
  have o4 := sl_out v4
  have m1 := sl_max v1
  have m2 := sl_max v2
  have m3 := sl_max v3
  have m4 := sl_max v4
  have H1 := Lib.hid v1
  have H2 := Lib.hid v2
  have H3 := Lib.hid v3
  have H4 := Lib.hid v4
  have hB : houseB ⟨n, rs, fs, os, hds⟩ = (inB n 1 4 && inB rs.length 1 3 && decide ((fs.length : Int) ≤ 4) && inB hds.length 1 4 && ((os.length : Int) == n) && !(rs.any fun r => !roomB r.lo r.hi r.mke r.wt r.stt) && !(fs.any fun f => !fanB rs.length f) && !(os.any fun x => !setB rs.length x) && !(hds.any fun x => !handB x.limit x.most)) := rfl
  have HB := Lib.hid hB
  have hq4 : decide ((fs.length : Int) > 4) = !decide ((fs.length : Int) ≤ 4) := by
   rw [Bool.eq_iff_iff]; simp
  have hq5 : ((os.length : Int) != n) = !((os.length : Int) == n) := rfl
  clear hh v1 v2 v3 v4 hB
  by_cases hc1 : (inB n 1 4 && inB rs.length 1 3 && decide ((fs.length : Int) ≤ 4) && inB hds.length 1 4 && ((os.length : Int) == n)) = true
  ·have hrl : rs.length ≤ 3 := by
    simp only [Bool.and_eq_true] at hc1
    have := inB_is hc1.1.1.1.2
    omega
   have k85 := fun h => K85 (X := dX cZE) rfl rs.length (by omega) h
   have hpw := pow_le (k := rs.length) (by omega)
   have ws : IntKind.i64.wrap (2 ^ rs.length - 1) = w64 (w64 (2 ^ min rs.length 64) - 1) := by
    rw [show min rs.length 64 = rs.length by omega, w64_small (n := 2 ^ rs.length) (by omega) (by omega)]; rfl
   have ws2 : IntKind.i64.wrap ((rs.length : Int) - 1) = w64 ((rs.length : Int) - 1) := rfl
   have HC1 := Lib.hid hc1
   simp only [Bool.and_eq_true] at hc1
   obtain ⟨⟨⟨⟨b1, b2⟩, b3⟩, b4⟩, b5⟩ := hc1
   clear hpw
   refine ClR.walk (c := _) rfl Tryz.func24 rfl (by kernel_rfl) rfl isRet_fail ?_
   simp only [entryEnv, Nat.reduceAdd]
   repeat' (first | refine goS ?_ | (apply U6; exact Z1; exact Z1; (focus (simp only [List.nil_append, List.append_nil]; first | exact K84 rfl _ _ _ _)); simp only [pM, pN, rR, rP]) | refine go2 (fun hh => ?_) (fun hh => ?_) | fail)
   clear b1 b2 b3 b4 b5 hq4 hq5
   refine W.loopH (rs.length) [1] [1] (fun k e lm => e.get 3 = some (.int .i64 ↑k) ∧ ((rs.take k).any fun r => !roomB r.lo r.hi r.mke r.wt r.stt) = false) ?_ ?_
   ·refine ⟨?_, ?_⟩ <;> first | exact Z2 | rfl | assumption | (simp [go_sem, *]; done)
   intro k e lm hk0 hce hcl hinv
   simp only [keepE, and_true] at hce
   have c1 := hce
   clear hce
   simp only [go_sem, *, Nat.reduceLT, Int.reduceEq, Int.reduceBEq, Int.reduceLE, Int.reduceLT, Nat.reduceAdd, Nat.reduceBEq, Nat.reduceEqDiff, reduceIte, Nat.reduceLeDiff, Nat.reduceMul, Nat.reduceSub, reduceCtorEq] at c1
   simp only [keepL, and_true] at hcl
   have d1 := hcl
   clear hcl
   simp only [go_sem, *, Nat.reduceLT, Int.reduceEq, Int.reduceBEq, Int.reduceLE, Int.reduceLT, Nat.reduceAdd, Nat.reduceBEq, Nat.reduceEqDiff, reduceIte, Nat.reduceLeDiff, Nat.reduceMul, Nat.reduceSub, reduceCtorEq] at d1
   obtain ⟨h3, hok⟩ := hinv
   by_cases hlt : k < rs.length
   ·have hd0 : decide ((k : Int) < ((rs.length : Nat) : Int)) = true := by simpa using hlt
    have hv_0 := wrap_succ hlt m1
    obtain ⟨p, hp⟩ := get_some hlt
    have hix := fun H => rms_idx H1.out hp H
    have hnx := any_next (f := fun r => !roomB r.lo r.hi r.mke r.wt r.stt) hp
    have hmem := any_mem (f := fun r => !roomB r.lo r.hi r.mke r.wt r.stt) hp
    have hrb : roomB p.lo p.hi p.mke p.wt p.stt = (!decide (p.lo < 0) && !decide (p.lo > p.hi) && !decide (p.hi > 50) && inB p.mke 0 1000 && inB p.wt 0 4 && inB p.stt 0 50) := rfl
    have HOK := Lib.hid hok
    have HNX := Lib.hid hnx
    have HMEM := Lib.hid hmem
    have HRB := Lib.hid hrb
    have HLT0 := Lib.hid hlt
    clear hok hnx hmem hrb hp hlt
    by_cases hz : roomB p.lo p.hi p.mke p.wt p.stt = true
    ·rw [HRB.out] at hz
     simp only [Bool.and_eq_true, Bool.not_eq_true'] at hz
     obtain ⟨⟨⟨⟨⟨z1, z2⟩, z3⟩, z4⟩, z5⟩, z6⟩ := hz
     repeat' (first | refine goS ?_ | (apply U6; exact Z1; exact Z1; (focus (simp only [List.nil_append, List.append_nil]; first | exact K84 rfl _ _ _ _)); simp only [pM, pN, rR, rP]) | refine go2 (fun hh => ?_) (fun hh => ?_) | fail)
     all_goals refine contH_mk (by first | assumption | exact HLT0.out) (by simp only [keepE, and_true, and_self, go_sem, *, Nat.reduceLT, Int.reduceEq, Int.reduceBEq, Int.reduceLE, Int.reduceLT, Nat.reduceAdd, Nat.reduceBEq, Nat.reduceEqDiff, reduceIte, Nat.reduceLeDiff, Nat.reduceMul, Nat.reduceSub, reduceCtorEq]) (by simp only [keepL, and_true, and_self, go_sem, *, Nat.reduceLT, Int.reduceEq, Int.reduceBEq, Int.reduceLE, Int.reduceLT, Nat.reduceAdd, Nat.reduceBEq, Nat.reduceEqDiff, reduceIte, Nat.reduceLeDiff, Nat.reduceMul, Nat.reduceSub, reduceCtorEq]) ?_
     all_goals refine ⟨?_, ?_⟩
     all_goals first | exact Z2 | skip
     rw [HNX.out, HOK.out, HRB.out, z1, z2, z3, z4, z5, z6]
     rfl
    ·have hz : roomB p.lo p.hi p.mke p.wt p.stt = false := by simpa using hz
     have hbad : houseB ⟨n, rs, fs, os, hds⟩ = false := by
      have : (rs.any fun r => !roomB r.lo r.hi r.mke r.wt r.stt) = true := HMEM.out (by rw [hz]; rfl)
      rw [HB.out, this]; simp
     rw [hbad]
     clear hbad
     rw [HRB.out] at hz
     have hcase : (decide (p.lo < 0) = true) ∨ (decide (p.lo < 0) = false ∧ decide (p.lo > p.hi) = true) ∨ (decide (p.lo < 0) = false ∧ decide (p.lo > p.hi) = false ∧ decide (p.hi > 50) = true) ∨ (decide (p.lo < 0) = false ∧ decide (p.lo > p.hi) = false ∧ decide (p.hi > 50) = false ∧ inB p.mke 0 1000 = false) ∨ (decide (p.lo < 0) = false ∧ decide (p.lo > p.hi) = false ∧ decide (p.hi > 50) = false ∧ inB p.mke 0 1000 = true ∧ inB p.wt 0 4 = false) ∨
       (decide (p.lo < 0) = false ∧ decide (p.lo > p.hi) = false ∧ decide (p.hi > 50) = false ∧ inB p.mke 0 1000 = true ∧ inB p.wt 0 4 = true ∧ inB p.stt 0 50 = false) := by
      revert hz
      cases decide (p.lo < 0) <;> cases decide (p.lo > p.hi) <;> cases decide (p.hi > 50) <;> cases inB p.mke 0 1000 <;> cases inB p.wt 0 4 <;> cases inB p.stt 0 50 <;> simp
     clear hz
     rcases hcase with z1 | ⟨z1, z2⟩ | ⟨z1, z2, z3⟩ | ⟨z1, z2, z3, z4⟩ | ⟨z1, z2, z3, z4, z5⟩ | ⟨z1, z2, z3, z4, z5, z6⟩
     all_goals (
      repeat' (first | refine goS ?_ | (apply U6; exact Z1; exact Z1; (focus (simp only [List.nil_append, List.append_nil]; first | exact K84 rfl _ _ _ _)); simp only [pM, pN, rR, rP]) | refine go2 (fun hh => ?_) (fun hh => ?_) | fail)
      all_goals (simp only [resV_def (X := dX cZE) Tryz.func24, Tryz.results24]; first | exact J5 | refine J6 ?_))
   ·have hd0 : decide ((k : Int) < ((rs.length : Nat) : Int)) = false := by simpa using hlt
    obtain rfl : k = rs.length := by omega
    rw [List.take_length] at hok
    have HOK1 := Lib.hid hok
    clear hok
    repeat' (first | refine goS ?_ | refine go2 (fun hh => ?_) (fun hh => ?_) | fail)
    refine W.loopH (fs.length) [1] [1] (fun j e1 lm1 => e1.get 5 = some (.int .i64 ↑j) ∧ ((fs.take j).any fun f => !fanB rs.length f) = false) ?_ ?_
    ·refine ⟨?_, ?_⟩ <;> first | exact Z2 | rfl | assumption | (simp [go_sem, *]; done)
    intro j e1 lm1 hk1 hce hcl hinv
    simp only [keepE, and_true] at hce
    have c1 := hce
    clear hce
    simp only [go_sem, *, Nat.reduceLT, Int.reduceEq, Int.reduceBEq, Int.reduceLE, Int.reduceLT, Nat.reduceAdd, Nat.reduceBEq, Nat.reduceEqDiff, reduceIte, Nat.reduceLeDiff, Nat.reduceMul, Nat.reduceSub, reduceCtorEq] at c1
    simp only [keepL, and_true] at hcl
    have d1 := hcl
    clear hcl
    simp only [go_sem, *, Nat.reduceLT, Int.reduceEq, Int.reduceBEq, Int.reduceLE, Int.reduceLT, Nat.reduceAdd, Nat.reduceBEq, Nat.reduceEqDiff, reduceIte, Nat.reduceLeDiff, Nat.reduceMul, Nat.reduceSub, reduceCtorEq] at d1
    obtain ⟨h5, hok⟩ := hinv
    by_cases hjt : j < fs.length
    ·have hd1 : decide ((j : Int) < ((fs.length : Nat) : Int)) = true := by simpa using hjt
     have hv_1 := wrap_succ hjt m2
     obtain ⟨p, hp⟩ := get_some hjt
     have hix := fun H => fas_idx H2.out hp H
     have hnx := any_next (f := fun f => !fanB rs.length f) hp
     have hmem := any_mem (f := fun f => !fanB rs.length f) hp
     have hrb : fanB rs.length p = (inB p.room 0 (w64 ((rs.length : Int) - 1)) && inB p.draws 0 50) := rfl
     have HOK := Lib.hid hok
     have HNX := Lib.hid hnx
     have HMEM := Lib.hid hmem
     have HRB := Lib.hid hrb
     have HLT1 := Lib.hid hjt
     clear hok hnx hmem hrb hp hjt
     by_cases hz : (inB p.room 0 (w64 ((rs.length : Int) - 1)) && inB p.draws 0 50) = true
     ·simp only [Bool.and_eq_true] at hz
      obtain ⟨z1, z2⟩ := hz
      repeat' (first | (apply W.drawQ (id := 12) (l1 := [0, 1, 2, 3, 4, 5, 6, 7, 8, 9, 10, 11, 12, 13, 14, 15, 16, 17, 18, 19, 20, 21]) (l2 := []); kernel_rfl; kernel_rfl; kernel_rfl; exact Z4) | (apply W.drawQ (id := 17) (l1 := [0, 1, 2, 3, 4, 5, 6, 7, 8, 9, 10, 11]) (l2 := []); kernel_rfl; kernel_rfl; kernel_rfl; exact Z4) | refine go1 ?_ | (apply U6; exact Z1; exact Z1; (focus (simp only [List.nil_append, List.append_nil]; first | exact K84 rfl _ _ _ _)); simp only [pM, pN, rR, rP]) | refine go2 (fun hh => ?_) (fun hh => ?_) | fail)
      all_goals refine contH_mk (by first | assumption | exact HLT1.out) (by simp only [keepE, and_true, and_self, go_sem, *, Nat.reduceLT, Int.reduceEq, Int.reduceBEq, Int.reduceLE, Int.reduceLT, Nat.reduceAdd, Nat.reduceBEq, Nat.reduceEqDiff, reduceIte, Nat.reduceLeDiff, Nat.reduceMul, Nat.reduceSub, reduceCtorEq]) (by simp only [keepL, and_true, and_self, go_sem, *, Nat.reduceLT, Int.reduceEq, Int.reduceBEq, Int.reduceLE, Int.reduceLT, Nat.reduceAdd, Nat.reduceBEq, Nat.reduceEqDiff, reduceIte, Nat.reduceLeDiff, Nat.reduceMul, Nat.reduceSub, reduceCtorEq]) ?_
      all_goals refine ⟨?_, ?_⟩
      all_goals first | exact Z2 | skip
      rw [HNX.out, HOK.out, HRB.out, z1, z2]
      rfl
     ·have hbad : houseB ⟨n, rs, fs, os, hds⟩ = false := by
       have : (fs.any fun f => !fanB rs.length f) = true := HMEM.out (by
        rw [HRB.out]; revert hz; cases (inB p.room 0 (w64 ((rs.length : Int) - 1)) && inB p.draws 0 50) <;> simp)
       rw [HB.out, this]; simp
      rw [hbad]
      have hcase : (inB p.room 0 (w64 ((rs.length : Int) - 1)) = false) ∨ (inB p.room 0 (w64 ((rs.length : Int) - 1)) = true ∧ inB p.draws 0 50 = false) := by
       revert hz; cases inB p.room 0 (w64 ((rs.length : Int) - 1)) <;> cases inB p.draws 0 50 <;> simp
      clear hz hbad
      rcases hcase with z1 | ⟨z1, z2⟩
      all_goals (
       repeat' (first | (apply W.drawQ (id := 12) (l1 := [0, 1, 2, 3, 4, 5, 6, 7, 8, 9, 10, 11, 12, 13, 14, 15, 16, 17, 18, 19, 20, 21]) (l2 := []); kernel_rfl; kernel_rfl; kernel_rfl; exact Z4) | (apply W.drawQ (id := 17) (l1 := [0, 1, 2, 3, 4, 5, 6, 7, 8, 9, 10, 11]) (l2 := []); kernel_rfl; kernel_rfl; kernel_rfl; exact Z4) | refine go1 ?_ | (apply U6; exact Z1; exact Z1; (focus (simp only [List.nil_append, List.append_nil]; first | exact K84 rfl _ _ _ _)); simp only [pM, pN, rR, rP]) | refine go2 (fun hh => ?_) (fun hh => ?_) | fail)
       all_goals (simp only [resV_def (X := dX cZE) Tryz.func24, Tryz.results24]; first | exact J5 | refine J6 ?_))
    ·have hd1 : decide ((j : Int) < ((fs.length : Nat) : Int)) = false := by simpa using hjt
     obtain rfl : j = fs.length := by omega
     rw [List.take_length] at hok
     have HOK2 := Lib.hid hok
     clear hok
     repeat' (first | refine goS ?_ | refine go2 (fun hh => ?_) (fun hh => ?_) | fail)
     refine W.loopH (os.length) [1] [1] (fun i e2 lm2 => e2.get 6 = some (.int .i64 ↑i) ∧ ((os.take i).any fun x => !setB rs.length x) = false) ?_ ?_
     ·refine ⟨?_, ?_⟩ <;> first | exact Z2 | rfl | assumption | (simp [go_sem, *]; done)
     intro i e2 lm2 hk2 hce hcl hinv
     simp only [keepE, and_true] at hce
     have c1 := hce
     clear hce
     simp only [go_sem, *, Nat.reduceLT, Int.reduceEq, Int.reduceBEq, Int.reduceLE, Int.reduceLT, Nat.reduceAdd, Nat.reduceBEq, Nat.reduceEqDiff, reduceIte, Nat.reduceLeDiff, Nat.reduceMul, Nat.reduceSub, reduceCtorEq] at c1
     simp only [keepL, and_true] at hcl
     have d1 := hcl
     clear hcl
     simp only [go_sem, *, Nat.reduceLT, Int.reduceEq, Int.reduceBEq, Int.reduceLE, Int.reduceLT, Nat.reduceAdd, Nat.reduceBEq, Nat.reduceEqDiff, reduceIte, Nat.reduceLeDiff, Nat.reduceMul, Nat.reduceSub, reduceCtorEq] at d1
     obtain ⟨h6, hok⟩ := hinv
     by_cases hit : i < os.length
     ·have hd2 : decide ((i : Int) < ((os.length : Nat) : Int)) = true := by simpa using hit
      have hv_2 := wrap_succ hit m3
      obtain ⟨p, hp⟩ := get_some hit
      have hix := fun H => ints_idx H3.out hp H
      have hnx := any_next (f := fun x => !setB rs.length x) hp
      have hmem := any_mem (f := fun x => !setB rs.length x) hp
      have hrb : setB rs.length p = inB p 0 (w64 (w64 (2 ^ min rs.length 64) - 1)) := rfl
      have HOK := Lib.hid hok
      have HNX := Lib.hid hnx
      have HMEM := Lib.hid hmem
      have HRB := Lib.hid hrb
      have HLT2 := Lib.hid hit
      clear hok hnx hmem hrb hp hit
      by_cases hz : inB p 0 (w64 (w64 (2 ^ min rs.length 64) - 1)) = true
      ·repeat' (first | (apply W.drawQ (id := 12) (l1 := [0, 1, 2, 3, 4, 5, 6, 7, 8, 9, 10, 11, 12, 13, 14, 15, 16, 17, 18, 19, 20, 21]) (l2 := []); kernel_rfl; kernel_rfl; kernel_rfl; exact Z4) | (apply W.drawQ (id := 17) (l1 := [0, 1, 2, 3, 4, 5, 6, 7, 8, 9, 10, 11]) (l2 := []); kernel_rfl; kernel_rfl; kernel_rfl; exact Z4) | refine go1 ?_ | (apply U6; exact Z1; exact Z1; (focus (simp only [List.nil_append, List.append_nil]; first | exact K84 rfl _ _ _ _ | exact k85 _)); simp only [pM, pN, rR, rP]) | refine go2 (fun hh => ?_) (fun hh => ?_) | fail)
       all_goals refine contH_mk (by first | assumption | exact HLT2.out) (by simp only [keepE, and_true, and_self, go_sem, *, Nat.reduceLT, Int.reduceEq, Int.reduceBEq, Int.reduceLE, Int.reduceLT, Nat.reduceAdd, Nat.reduceBEq, Nat.reduceEqDiff, reduceIte, Nat.reduceLeDiff, Nat.reduceMul, Nat.reduceSub, reduceCtorEq]) (by simp only [keepL, and_true, and_self, go_sem, *, Nat.reduceLT, Int.reduceEq, Int.reduceBEq, Int.reduceLE, Int.reduceLT, Nat.reduceAdd, Nat.reduceBEq, Nat.reduceEqDiff, reduceIte, Nat.reduceLeDiff, Nat.reduceMul, Nat.reduceSub, reduceCtorEq]) ?_
       all_goals refine ⟨?_, ?_⟩
       all_goals first | exact Z2 | skip
       rw [HNX.out, HOK.out, HRB.out, hz]
       rfl
      ·have hz : inB p 0 (w64 (w64 (2 ^ min rs.length 64) - 1)) = false := by simpa using hz
       have hbad : houseB ⟨n, rs, fs, os, hds⟩ = false := by
        have : (os.any fun x => !setB rs.length x) = true := HMEM.out (by rw [HRB.out, hz]; rfl)
        rw [HB.out, this]; simp
       rw [hbad]
       clear hbad
       repeat' (first | (apply W.drawQ (id := 12) (l1 := [0, 1, 2, 3, 4, 5, 6, 7, 8, 9, 10, 11, 12, 13, 14, 15, 16, 17, 18, 19, 20, 21]) (l2 := []); kernel_rfl; kernel_rfl; kernel_rfl; exact Z4) | (apply W.drawQ (id := 17) (l1 := [0, 1, 2, 3, 4, 5, 6, 7, 8, 9, 10, 11]) (l2 := []); kernel_rfl; kernel_rfl; kernel_rfl; exact Z4) | refine go1 ?_ | (apply U6; exact Z1; exact Z1; (focus (simp only [List.nil_append, List.append_nil]; first | exact K84 rfl _ _ _ _ | exact k85 _)); simp only [pM, pN, rR, rP]) | refine go2 (fun hh => ?_) (fun hh => ?_) | fail)
       all_goals (simp only [resV_def (X := dX cZE) Tryz.func24, Tryz.results24]; first | exact J5 | refine J6 ?_)
     ·have hd2 : decide ((i : Int) < ((os.length : Nat) : Int)) = false := by simpa using hit
      obtain rfl : i = os.length := by omega
      rw [List.take_length] at hok
      have HOK3 := Lib.hid hok
      clear hok
      repeat' (first | refine goS ?_ | refine go2 (fun hh => ?_) (fun hh => ?_) | fail)
      refine W.loopH (hds.length) [1] [1] (fun m e3 lm3 => e3.get 7 = some (.int .i64 ↑m) ∧ ((hds.take m).any fun x => !handB x.limit x.most) = false) ?_ ?_
      ·refine ⟨?_, ?_⟩ <;> first | exact Z2 | rfl | assumption | (simp [go_sem, *]; done)
      intro m e3 lm3 hk3 hce hcl hinv
      simp only [keepE, and_true] at hce
      have c1 := hce
      clear hce
      simp only [go_sem, *, Nat.reduceLT, Int.reduceEq, Int.reduceBEq, Int.reduceLE, Int.reduceLT, Nat.reduceAdd, Nat.reduceBEq, Nat.reduceEqDiff, reduceIte, Nat.reduceLeDiff, Nat.reduceMul, Nat.reduceSub, reduceCtorEq] at c1
      simp only [keepL, and_true] at hcl
      have d1 := hcl
      clear hcl
      simp only [go_sem, *, Nat.reduceLT, Int.reduceEq, Int.reduceBEq, Int.reduceLE, Int.reduceLT, Nat.reduceAdd, Nat.reduceBEq, Nat.reduceEqDiff, reduceIte, Nat.reduceLeDiff, Nat.reduceMul, Nat.reduceSub, reduceCtorEq] at d1
      obtain ⟨h7, hok⟩ := hinv
      by_cases hmt : m < hds.length
      ·have hd3 : decide ((m : Int) < ((hds.length : Nat) : Int)) = true := by simpa using hmt
       have hv_3 := wrap_succ hmt m4
       obtain ⟨p, hp⟩ := get_some hmt
       have hix := fun H => has_idx H4.out hp H
       have hnx := any_next (f := fun x => !handB x.limit x.most) hp
       have hmem := any_mem (f := fun x => !handB x.limit x.most) hp
       have hrb : handB p.limit p.most = (inB p.limit 0 2000 && inB p.most 0 4) := rfl
       have HOK := Lib.hid hok
       have HNX := Lib.hid hnx
       have HMEM := Lib.hid hmem
       have HRB := Lib.hid hrb
       have HLT3 := Lib.hid hmt
       clear hok hnx hmem hrb hp hmt
       by_cases hz : (inB p.limit 0 2000 && inB p.most 0 4) = true
       ·simp only [Bool.and_eq_true] at hz
        obtain ⟨z1, z2⟩ := hz
        repeat' (first | refine goS ?_ | (apply U6; exact Z1; exact Z1; (focus (simp only [List.nil_append, List.append_nil]; first | exact K84 rfl _ _ _ _)); simp only [pM, pN, rR, rP]) | refine go2 (fun hh => ?_) (fun hh => ?_) | fail)
        all_goals refine contH_mk (by first | assumption | exact HLT3.out) (by simp only [keepE, and_true, and_self, go_sem, *, Nat.reduceLT, Int.reduceEq, Int.reduceBEq, Int.reduceLE, Int.reduceLT, Nat.reduceAdd, Nat.reduceBEq, Nat.reduceEqDiff, reduceIte, Nat.reduceLeDiff, Nat.reduceMul, Nat.reduceSub, reduceCtorEq]) (by simp only [keepL, and_true, and_self, go_sem, *, Nat.reduceLT, Int.reduceEq, Int.reduceBEq, Int.reduceLE, Int.reduceLT, Nat.reduceAdd, Nat.reduceBEq, Nat.reduceEqDiff, reduceIte, Nat.reduceLeDiff, Nat.reduceMul, Nat.reduceSub, reduceCtorEq]) ?_
        all_goals refine ⟨?_, ?_⟩
        all_goals first | exact Z2 | skip
        rw [HNX.out, HOK.out, HRB.out, z1, z2]
        rfl
       ·have hbad : houseB ⟨n, rs, fs, os, hds⟩ = false := by
         have : (hds.any fun x => !handB x.limit x.most) = true := HMEM.out (by
          rw [HRB.out]; revert hz; cases (inB p.limit 0 2000 && inB p.most 0 4) <;> simp)
         rw [HB.out, this]; simp
        rw [hbad]
        have hcase : (inB p.limit 0 2000 = false) ∨ (inB p.limit 0 2000 = true ∧ inB p.most 0 4 = false) := by
         revert hz; cases inB p.limit 0 2000 <;> cases inB p.most 0 4 <;> simp
        clear hz hbad
        rcases hcase with z1 | ⟨z1, z2⟩
        all_goals (
         repeat' (first | refine goS ?_ | (apply U6; exact Z1; exact Z1; (focus (simp only [List.nil_append, List.append_nil]; first | exact K84 rfl _ _ _ _)); simp only [pM, pN, rR, rP]) | refine go2 (fun hh => ?_) (fun hh => ?_) | fail)
         all_goals (simp only [resV_def (X := dX cZE) Tryz.func24, Tryz.results24]; first | exact J5 | refine J6 ?_))
      ·have hd3 : decide ((m : Int) < ((hds.length : Nat) : Int)) = false := by simpa using hmt
       obtain rfl : m = hds.length := by omega
       rw [List.take_length] at hok
       have hgood : houseB ⟨n, rs, fs, os, hds⟩ = true := by
        have h1 := HC1.out
        rw [HB.out, h1, HOK1.out, HOK2.out, HOK3.out, hok]
        rfl
       rw [hgood]
       clear hok hgood
       repeat' (first | refine goS ?_ | refine go2 (fun hh => ?_) (fun hh => ?_) | fail)
       all_goals (simp only [resV_def (X := dX cZE) Tryz.func24, Tryz.results24]; first | exact J5 | refine J6 ?_)
  ·have hbad : houseB ⟨n, rs, fs, os, hds⟩ = false := by
    have : (inB n 1 4 && inB rs.length 1 3 && decide ((fs.length : Int) ≤ 4) && inB hds.length 1 4 && ((os.length : Int) == n)) = false := by simpa using hc1
    rw [HB.out, this]; simp
   rw [hbad]
   have HC1 := Lib.hid hc1
   clear hc1 hbad
   have hcase : (inB n 1 4 = false) ∨ (inB n 1 4 = true ∧ inB rs.length 1 3 = false) ∨ (inB n 1 4 = true ∧ inB rs.length 1 3 = true ∧ decide ((fs.length : Int) ≤ 4) = false) ∨ (inB n 1 4 = true ∧ inB rs.length 1 3 = true ∧ decide ((fs.length : Int) ≤ 4) = true ∧ inB hds.length 1 4 = false) ∨ (inB n 1 4 = true ∧ inB rs.length 1 3 = true ∧ decide ((fs.length : Int) ≤ 4) = true ∧ inB hds.length 1 4 = true ∧ ((os.length : Int) == n) = false) := by
    have := HC1.out
    revert this; cases inB n 1 4 <;> cases inB rs.length 1 3 <;> cases decide ((fs.length : Int) ≤ 4) <;> cases inB hds.length 1 4 <;> cases ((os.length : Int) == n) <;> simp
   clear HC1
   rcases hcase with z1 | ⟨z1, z2⟩ | ⟨z1, z2, z3⟩ | ⟨z1, z2, z3, z4⟩ | ⟨z1, z2, z3, z4, z5⟩
   all_goals (
    refine ClR.walk (c := _) rfl Tryz.func24 rfl (by kernel_rfl) rfl isRet_fail ?_
    simp only [entryEnv, Nat.reduceAdd]
    repeat' (first | refine goS ?_ | (apply U6; exact Z1; exact Z1; (focus (simp only [List.nil_append, List.append_nil]; first | exact K84 rfl _ _ _ _)); simp only [pM, pN, rR, rP]) | refine go2 (fun hh => ?_) (fun hh => ?_) | fail)
    all_goals (simp only [resV_def (X := dX cZE) Tryz.func24, Tryz.results24]; first | exact J5 | refine J6 ?_))
 ·cases h
theorem F24D : IntrFn Tryz.prog 24 (flatFnD sp82) := flatD_fn (X := dX cZE) cZE_sound p82 R24
theorem K24 {X : Ctx} (hX : X.intr 24 = some (flatFnD sp82)) {ra fa oa ha : AV} {m : Hs} {h : Heap} (h1 : SeeV h rmC ra m.rooms) (h2 : SeeV h faC fa m.fans) (h3 : SeeV h intC oa m.op) (h4 : SeeV h haC ha m.hands) :
  Cl X 24 [.agg [.int .i64 m.hours, ra, fa, oa, ha]] h (.ret (.bool (houseB m)) h none) := by
 obtain ⟨ra', v1, s1⟩ := h1
 obtain ⟨fa', v2, s2⟩ := h2
 obtain ⟨oa', v3, s3⟩ := h3
 obtain ⟨ha', v4, s4⟩ := h4
 exact Cl.intr hX (by simp only [flatFnD, viewDs, viewD_hs v1 v2 v3 v4, sp82, hsV, s1, s2, s3, s4, Option.map_some])
end Go.AM
namespace Go.AM
open Go Go.Proofs
variable [Keep]
attribute [local irreducible] W WO WO1 WD WQ WT thenQ blockQ endR isRet retK Cl ClR
open Go.TX (Rm Fa Ha Hs numP smallP isDig valD val_app dig_bds mapO mapO_next mapO_none mapO_len spL_app spL_end dig_small dig_step digF_len lineW)
structure Spt (c : UInt8) (s : List UInt8) (i f : Nat) (done : List (List UInt8)) : Prop where
 le : f ≤ i ∧ i ≤ s.length
 no : ∀ x ∈ (s.take i).drop f, x ≠ c
 is : spL c s = done ++ spL c (s.drop f)
theorem Spt.start (c : UInt8) (s : List UInt8) : Spt c s 0 0 [] := ⟨⟨Nat.le_refl _, Nat.zero_le _⟩, by simp, by simp⟩
theorem Spt.go {c : UInt8} {s : List UInt8} {i f : Nat} {done : List (List UInt8)} (h : Spt c s i f done) {b : UInt8} (hb : s[i]? = some b) (hc : b ≠ c) : Spt c s (i + 1) f done := by
 have hi : i < s.length := (List.getElem?_eq_some_iff.1 hb).1
 refine ⟨⟨by have := h.le; omega, by omega⟩, fun x hx => ?_, h.is⟩
 rw [take_next hb, List.drop_append_of_le_length (by rw [List.length_take]; have := h.le; omega)] at hx
 rcases List.mem_append.1 hx with hx | hx
 ·exact h.no x hx
 ·rcases List.mem_singleton.1 hx with rfl
  exact hc
theorem Spt.cut {c : UInt8} {s : List UInt8} {i f : Nat} {done : List (List UInt8)} (h : Spt c s i f done) (hb : s[i]? = some c) : Spt c s (i + 1) (i + 1) (done ++ [(s.take i).drop f]) := by
 have hi : i < s.length := (List.getElem?_eq_some_iff.1 hb).1
 have hle := h.le
 refine ⟨⟨Nat.le_refl _, by omega⟩, fun x hx => ?_, ?_⟩
 ·rw [List.drop_of_length_le (by rw [List.length_take]; omega)] at hx
  cases hx
 ·have e : s.drop f = (s.take i).drop f ++ c :: s.drop (i + 1) := by
   have e1 : s = s.take i ++ c :: s.drop (i + 1) := by
    have := List.getElem?_eq_some_iff.1 hb
    obtain ⟨h1, h2⟩ := this
    rw [← h2, ← List.drop_eq_getElem_cons h1, List.take_append_drop]
   have e2 : s.drop f = (s.take i ++ c :: s.drop (i + 1)).drop f := by rw [← e1]
   rw [e2, List.drop_append_of_le_length (by rw [List.length_take]; omega)]
  rw [h.is, e, spL_app _ h.no, List.append_assoc]
  rfl
theorem Spt.fin {c : UInt8} {s : List UInt8} {i f : Nat} {done : List (List UInt8)} (h : Spt c s i f done) (hi : i = s.length) : spL c s = done ++ [s.drop f] := by
 subst hi
 have := h.no
 rw [List.take_length] at this
 rw [h.is, spL_end this]
def numI (w : List UInt8) : Int := match numP w with | some n => n | none => -1
attribute [local irreducible] numP
attribute [local irreducible] numI
end Go.AM
namespace Go.AM
open Go Go.Proofs
variable [Keep]
attribute [local irreducible] W WO WO1 WD WQ WT thenQ blockQ endR isRet retK Cl ClR
open Go.TX (Rm Fa Ha Hs)
def sp34 : List AV → Option AV
 | [a, b] => match slV intC a, slV intC b with
  | some l, some r => some (.bool (decide (l = r)))
  | _, _ => none
 | _ => none
theorem p34 : ∀ args v, sp34 args = some v → v.flat = true := by
 intro args v h
 unfold sp34 at h
 split at h
 ·split at h
  ·cases h; rfl
  ·cases h
 ·cases h
set_option maxHeartbeats 1000000 in
theorem R34 : ∀ args v, sp34 args = some v → ClR (dX i0) 34 args emptyHp (isRet v) := by
 intro args v h
 unfold sp34 at h
 split at h
 ·rename_i a b
  split at h
  ·rename_i l r hl hr
   have h := Option.some.inj h
   subst h
   have l1 := sl_len hl
   have o1 := sl_out hl
   have m1 := sl_max hl
   have l2 := sl_len hr
   have o2 := sl_out hr
   have HL := Lib.hid hl
   have HR := Lib.hid hr
   clear hl hr
   by_cases hlen : l.length = r.length
   ·have hq : ((l.length : Int) != (r.length : Int)) = false := by simp; omega
    have HLEN := Lib.hid hlen
    clear hlen
    refine ClR.walk (c := _) rfl Tryz.func34 rfl (by kernel_rfl) rfl isRet_fail ?_
    simp only [entryEnv, Nat.reduceAdd]
    repeat' (first | refine goS ?_ | refine go2 (fun hh => ?_) (fun hh => ?_) | fail)
    clear hq
    refine W.loopH (l.length) [0, 1] [] (fun k e lm => e.get 5 = some (.int .i64 ↑k) ∧ l.take k = r.take k) ?_ ?_
    ·refine ⟨?_, ?_⟩ <;> first | exact Z2 | rfl | assumption | (simp [go_sem, *]; done)
    intro k e lm hk0 hce hcl hinv
    simp only [keepE, and_true] at hce
    obtain ⟨c0, c1⟩ := hce
    simp only [go_sem, *, Nat.reduceLT, Int.reduceEq, Int.reduceBEq, Int.reduceLE, Int.reduceLT, Nat.reduceAdd, Nat.reduceBEq, Nat.reduceEqDiff, reduceIte, Nat.reduceLeDiff, Nat.reduceMul, Nat.reduceSub, reduceCtorEq] at c0 c1
    clear hcl
    obtain ⟨h5, heq⟩ := hinv
    by_cases hlt : k < l.length
    ·have hd0 : decide ((k : Int) < ((l.length : Nat) : Int)) = true := by simpa using hlt
     have hv_0 := wrap_succ hlt m1
     obtain ⟨p, hp⟩ := get_some hlt
     obtain ⟨q, hq⟩ := get_some (l := r) (k := k) (by have := HLEN.out; omega)
     have hix := fun H => ints_idx HL.out hp H
     have hix2 := fun H => ints_idx HR.out hq H
     have HEQ := Lib.hid heq
     have HP := Lib.hid hp
     have HQ := Lib.hid hq
     have HLT0 := Lib.hid hlt
     clear heq hp hq hlt
     by_cases hpq : p = q
     ·have hn : (p != q) = false := by simp [hpq]
      have HPQ := Lib.hid hpq
      clear hpq
      repeat' (first | (apply W.drawQ (id := 6) (l1 := [0, 1, 2, 3, 4, 5, 6, 7, 8]) (l2 := []); kernel_rfl; kernel_rfl; kernel_rfl; exact Z4) | refine go1 ?_ | refine go2 (fun hh => ?_) (fun hh => ?_) | fail)
      all_goals refine contH_mk (by first | assumption | exact HLT0.out) (by simp only [keepE, and_true, and_self, go_sem, *, Nat.reduceLT, Int.reduceEq, Int.reduceBEq, Int.reduceLE, Int.reduceLT, Nat.reduceAdd, Nat.reduceBEq, Nat.reduceEqDiff, reduceIte, Nat.reduceLeDiff, Nat.reduceMul, Nat.reduceSub, reduceCtorEq]) (by simp only [keepL, and_true, and_self, go_sem, *, Nat.reduceLT, Int.reduceEq, Int.reduceBEq, Int.reduceLE, Int.reduceLT, Nat.reduceAdd, Nat.reduceBEq, Nat.reduceEqDiff, reduceIte, Nat.reduceLeDiff, Nat.reduceMul, Nat.reduceSub, reduceCtorEq]) ?_
      all_goals refine ⟨?_, ?_⟩
      all_goals first | exact Z2 | skip
      rw [take_next HP.out, take_next HQ.out, HEQ.out, HPQ.out]
     ·have hn : (p != q) = true := by simp [hpq]
      have hne : decide (l = r) = false := by
       simp only [decide_eq_false_iff_not]
       intro e
       have h1 := HP.out
       rw [e, HQ.out] at h1
       exact hpq (Option.some.inj h1).symm
      rw [hne]
      clear hpq hne
      repeat' (first | (apply W.drawQ (id := 6) (l1 := [0, 1, 2, 3, 4, 5, 6, 7, 8]) (l2 := []); kernel_rfl; kernel_rfl; kernel_rfl; exact Z4) | refine go1 ?_ | refine go2 (fun hh => ?_) (fun hh => ?_) | fail)
      all_goals (simp only [resV_def (X := dX i0) Tryz.func34, Tryz.results34]; first | exact J5 | refine J6 ?_)
    ·have hd0 : decide ((k : Int) < ((l.length : Nat) : Int)) = false := by simpa using hlt
     obtain rfl : k = l.length := by omega
     have hey : decide (l = r) = true := by
      rw [List.take_length] at heq
      have h2 : r.take l.length = r := by rw [HLEN.out, List.take_length]
      rw [h2] at heq
      simpa using heq
     rw [hey]
     clear heq hey
     repeat' (first | refine goS ?_ | refine go2 (fun hh => ?_) (fun hh => ?_) | fail)
     all_goals (simp only [resV_def (X := dX i0) Tryz.func34, Tryz.results34]; first | exact J5 | refine J6 ?_)
   ·have hq : ((l.length : Int) != (r.length : Int)) = true := by simp; omega
    have hne : decide (l = r) = false := by
     simp only [decide_eq_false_iff_not]
     intro e
     exact hlen (by rw [e])
    rw [hne]
    clear hlen hne
    refine ClR.walk (c := _) rfl Tryz.func34 rfl (by kernel_rfl) rfl isRet_fail ?_
    simp only [entryEnv, Nat.reduceAdd]
    repeat' (first | refine goS ?_ | refine go2 (fun hh => ?_) (fun hh => ?_) | fail)
    all_goals (simp only [resV_def (X := dX i0) Tryz.func34, Tryz.results34]; first | exact J5 | refine J6 ?_)
  ·cases h
 ·cases h
theorem F34 : IntrFn Tryz.prog 34 (flatFnD sp34) := flatD_fn (X := dX i0) i0_sound p34 R34
open Classical in
def shortB (m : Hs) : Bool := decide ((m.rooms.length : Int) ≤ 5) && decide ((m.fans.length : Int) ≤ 7) && decide ((m.op.length : Int) ≤ 6) && decide ((m.hands.length : Int) ≤ 6)
end Go.AM
namespace Go.AM
open Go Go.Proofs
variable [Keep]
attribute [local irreducible] W WO WO1 WD WQ WT thenQ blockQ endR isRet retK Cl ClR
open Go.TX (Rm Fa Ha Hs)
def madeR (m : Hs) (f : Fl) (r : Nat) (n0 : Int) : Nat → Int
 | 0 => n0
 | k + 1 => if runsB m f r k = true then w64 (madeR m f r n0 k + (m.rooms.getD r rm0).mke) else madeR m f r n0 k
def madeF (m : Hs) (f : Fl) (n : Nat) : Nat → Int
 | 0 => 0
 | r + 1 => madeR m f r (madeF m f n r) n
def sp107 : List AV → Option AV
 | [.agg [.int .i64 n, ra, fa, oa, ha, fv]] => match hsV (.agg [.int .i64 n, ra, fa, oa, ha]), flV fv with
  | some m, some f => if walkB m = true then some (.int .i64 (madeF m f m.hours.toNat m.rooms.length)) else none
  | _, _ => none
 | _ => none
theorem p107 : ∀ args v, sp107 args = some v → v.pur = true := by
 intro args v h
 unfold sp107 at h
 split at h
 ·split at h
  ·split at h
   ·cases h; rfl
   ·cases h
  ·cases h
 ·cases h
attribute [local irreducible] madeR madeF runsB
set_option maxHeartbeats 8000000 in
theorem F107 : IntrFn Tryz.prog 107 (pureFn sp107) := by
 refine pure_fn (X := dX cYH) cYH_sound p107 ?_
 intro args v h
 unfold sp107 at h
 split at h
 ·rename_i n ra fa oa ha fv
  split at h
  ·rename_i m f hm hfv
   split at h
   ·rename_i hw
    have h := Option.some.inj h
    subst h
    obtain rfl := flV_is hfv
    obtain ⟨ra', fa', oa', ha', heq, v1, v2, v3, v4⟩ := hsV_is hm
    cases heq
    unfold walkB at hw
    simp only [Bool.and_eq_true, decide_eq_true_eq] at hw
    obtain ⟨⟨⟨⟨w1, w2⟩, w3⟩, w4⟩, w5⟩ := hw
    obtain ⟨nn, hnn⟩ : ∃ nn : Nat, m.hours = nn := ⟨m.hours.toNat, by omega⟩
    have hnt : m.hours.toNat = nn := by omega
    have l1 := sl_len v1
    have o1 := sl_out v1
    have o2 := sl_out v2
    have o3 := sl_out v3
    have o4 := sl_out v4
    have hruns := fun (r k : Nat) (hrl : r < m.rooms.length) (hkl : k < nn) (h : Heap) => C149 cYH rfl rfl rfl rfl rfl rfl m f ra fa oa ha v1 v3 r k hrl (by omega) ⟨o2, o4⟩ h
    obtain ⟨fo, fcl, fit, _⟩ := fl_parts f
    simp only [AV.cells] at fcl
    simp only [isTuple] at fit
    rw [hnt]
    rw [hnn] at hruns ⊢
    have H1 := Lib.hid v1
    have HRUNS := Lib.hid hruns
    have HN := Lib.hid (show nn ≤ 1000 by omega)
    clear v1 v2 v3 v4 hruns hm hfv hnt w1 w2 w3 hnn
    generalize f.enc = fv at *
    refine ClR.walk (c := _) rfl Tryz.func107 rfl (by kernel_rfl) rfl isRet_fail ?_
    simp only [entryEnv, Nat.reduceAdd, emptyHp]
    repeat' (first | refine goS ?_ | refine go2 (fun hh => ?_) (fun hh => ?_) | fail)
    refine W.loopH (m.rooms.length) [1, 9, 10] [1] (fun k e lm => e.get 11 = some (.int .i64 ↑k) ∧ e.get 3 = some (.int .i64 (madeF m f nn k))) ?_ ?_
    ·skip
     refine ⟨?_, ?_⟩
     ·simp [go_sem, *]
     ·unfold madeF; simp only [go_sem, *, Nat.reduceLT, Int.reduceEq, Int.reduceBEq, Int.reduceLE, Int.reduceLT, Nat.reduceAdd, Nat.reduceBEq, Nat.reduceEqDiff, reduceIte, Nat.reduceLeDiff, Nat.reduceMul, Nat.reduceSub, reduceCtorEq]
    intro k e lm hk0 hce hcl hinv
    simp only [keepE, and_true] at hce
    obtain ⟨c1, c9, c10⟩ := hce
    simp only [go_sem, *, Nat.reduceLT, Int.reduceEq, Int.reduceBEq, Int.reduceLE, Int.reduceLT, Nat.reduceAdd, Nat.reduceBEq, Nat.reduceEqDiff, reduceIte, Nat.reduceLeDiff, Nat.reduceMul, Nat.reduceSub, reduceCtorEq] at c1 c9 c10
    simp only [keepL, and_true] at hcl
    have d1 := hcl
    clear hcl
    simp only [go_sem, *, Nat.reduceLT, Int.reduceEq, Int.reduceBEq, Int.reduceLE, Int.reduceLT, Nat.reduceAdd, Nat.reduceBEq, Nat.reduceEqDiff, reduceIte, Nat.reduceLeDiff, Nat.reduceMul, Nat.reduceSub, reduceCtorEq] at d1
    obtain ⟨h11, h3⟩ := hinv
    by_cases hlt : k < m.rooms.length
    ·have hd0 : decide ((k : Int) < ((m.rooms.length : Nat) : Int)) = true := by first | (simpa using hlt; done) | (simp only [decide_eq_true_eq]; omega)
     have hv_0 := wrap_succ hlt (by unfold maxL; omega)
     obtain ⟨p, hp'⟩ := get_some hlt
     have hix := fun H => rms_idx H1.out hp' H
     have hgp : m.rooms.getD k rm0 = p := by simp [List.getD, hp']
     have HGP := Lib.hid hgp
     have HLT0 := Lib.hid hlt
     obtain ⟨gg, hng⟩ : ∃ gg, nextGen lm 5 = gg := ⟨_, rfl⟩
     unfold nextGen at hng
     clear hp' hgp
     repeat' (first | refine goS ?_ | refine go2 (fun hh => ?_) (fun hh => ?_) | fail)
     clear hng
     refine W.loopH (nn) [1, 4, 5, 9, 10, 11, 18] [1, 5] (fun j e1 lm1 => e1.get 19 = some (.int .i64 ↑j) ∧ e1.get 3 = some (.int .i64 (madeR m f k (madeF m f nn k) j))) ?_ ?_
     ·skip
      refine ⟨?_, ?_⟩
      ·simp [go_sem, *]
      ·unfold madeR; simp only [go_sem, *, Nat.reduceLT, Int.reduceEq, Int.reduceBEq, Int.reduceLE, Int.reduceLT, Nat.reduceAdd, Nat.reduceBEq, Nat.reduceEqDiff, reduceIte, Nat.reduceLeDiff, Nat.reduceMul, Nat.reduceSub, reduceCtorEq]
     intro j e1 lm1 hk1 hce hcl hinv
     simp only [keepE, and_true] at hce
     obtain ⟨c1, c4, c5, c9, c10, c11, c18⟩ := hce
     simp only [go_sem, *, Nat.reduceLT, Int.reduceEq, Int.reduceBEq, Int.reduceLE, Int.reduceLT, Nat.reduceAdd, Nat.reduceBEq, Nat.reduceEqDiff, reduceIte, Nat.reduceLeDiff, Nat.reduceMul, Nat.reduceSub, reduceCtorEq] at c1 c4 c5 c9 c10 c11 c18
     simp only [keepL, and_true] at hcl
     obtain ⟨d1, d5⟩ := hcl
     simp only [go_sem, *, Nat.reduceLT, Int.reduceEq, Int.reduceBEq, Int.reduceLE, Int.reduceLT, Nat.reduceAdd, Nat.reduceBEq, Nat.reduceEqDiff, reduceIte, Nat.reduceLeDiff, Nat.reduceMul, Nat.reduceSub, reduceCtorEq] at d1 d5
     obtain ⟨h19, h3⟩ := hinv
     by_cases hjt : j < nn
     ·have hd1 : decide ((j : Int) < ((nn : Nat) : Int)) = true := by first | (simpa using hjt; done) | (simp only [decide_eq_true_eq]; omega)
      have hv_1 := wrap_succ hjt (by have := HN.out; unfold maxL; omega)
      have hms : madeR m f k (madeF m f nn k) (j + 1) = if runsB m f k j = true then w64 (madeR m f k (madeF m f nn k) j + p.mke) else madeR m f k (madeF m f nn k) j := by rw [madeR, HGP.out]
      have k149 := fun h => HRUNS.out k j HLT0.out hjt h
      generalize hq : madeR m f k (madeF m f nn k) (j + 1) = y1 at *
      generalize madeR m f k (madeF m f nn k) j = y0 at *
      have HQ := Lib.hid hq
      have HLT1 := Lib.hid hjt
      clear hq hjt
      cases hb : runsB m f k j with
      | true =>
       rw [hb] at hms k149
       have hw : IntKind.i64.wrap (y0 + p.mke) = y1 := by rw [hms]; rfl
       clear hms hb
       repeat' (first | refine goS ?_ | (apply U6; exact Z1; exact Z1; (focus (simp only [List.nil_append, List.append_nil]; first | exact k149 _)); simp only [pM, pN, rR, rP]) | refine go2 (fun hh => ?_) (fun hh => ?_) | fail)
       all_goals refine contH_mk (by first | assumption | exact HLT1.out) (by simp only [keepE, and_true, and_self, go_sem, *, Nat.reduceLT, Int.reduceEq, Int.reduceBEq, Int.reduceLE, Int.reduceLT, Nat.reduceAdd, Nat.reduceBEq, Nat.reduceEqDiff, reduceIte, Nat.reduceLeDiff, Nat.reduceMul, Nat.reduceSub, reduceCtorEq]) (by simp only [keepL, and_true, and_self, go_sem, *, Nat.reduceLT, Int.reduceEq, Int.reduceBEq, Int.reduceLE, Int.reduceLT, Nat.reduceAdd, Nat.reduceBEq, Nat.reduceEqDiff, reduceIte, Nat.reduceLeDiff, Nat.reduceMul, Nat.reduceSub, reduceCtorEq]) ?_
       all_goals refine ⟨?_, ?_⟩
       all_goals first | exact Z2 | skip
       rw [HQ.out]
       simp only [go_sem, *, Nat.reduceLT, Int.reduceEq, Int.reduceBEq, Int.reduceLE, Int.reduceLT, Nat.reduceAdd, Nat.reduceBEq, Nat.reduceEqDiff, reduceIte, Nat.reduceLeDiff, Nat.reduceMul, Nat.reduceSub, reduceCtorEq]
      | false =>
       rw [hb] at hms k149
       have hw : y1 = y0 := by rw [hms]; rfl
       clear hms hb
       repeat' (first | refine goS ?_ | (apply U6; exact Z1; exact Z1; (focus (simp only [List.nil_append, List.append_nil]; first | exact k149 _)); simp only [pM, pN, rR, rP]) | refine go2 (fun hh => ?_) (fun hh => ?_) | fail)
       all_goals refine contH_mk (by first | assumption | exact HLT1.out) (by simp only [keepE, and_true, and_self, go_sem, *, Nat.reduceLT, Int.reduceEq, Int.reduceBEq, Int.reduceLE, Int.reduceLT, Nat.reduceAdd, Nat.reduceBEq, Nat.reduceEqDiff, reduceIte, Nat.reduceLeDiff, Nat.reduceMul, Nat.reduceSub, reduceCtorEq]) (by simp only [keepL, and_true, and_self, go_sem, *, Nat.reduceLT, Int.reduceEq, Int.reduceBEq, Int.reduceLE, Int.reduceLT, Nat.reduceAdd, Nat.reduceBEq, Nat.reduceEqDiff, reduceIte, Nat.reduceLeDiff, Nat.reduceMul, Nat.reduceSub, reduceCtorEq]) ?_
       all_goals refine ⟨?_, ?_⟩
       all_goals first | exact Z2 | skip
       rw [HQ.out]
       simp only [go_sem, *, Nat.reduceLT, Int.reduceEq, Int.reduceBEq, Int.reduceLE, Int.reduceLT, Nat.reduceAdd, Nat.reduceBEq, Nat.reduceEqDiff, reduceIte, Nat.reduceLeDiff, Nat.reduceMul, Nat.reduceSub, reduceCtorEq]
     ·have hd1 : decide ((j : Int) < ((nn : Nat) : Int)) = false := by first | (simpa using hjt; done) | (simp only [decide_eq_false_iff_not]; omega)
      obtain rfl : j = nn := by omega
      repeat' (first | refine goS ?_ | refine go2 (fun hh => ?_) (fun hh => ?_) | fail)
      all_goals refine contH_mk (by first | assumption | exact HLT1.out) (by simp only [keepE, and_true, and_self, go_sem, *, Nat.reduceLT, Int.reduceEq, Int.reduceBEq, Int.reduceLE, Int.reduceLT, Nat.reduceAdd, Nat.reduceBEq, Nat.reduceEqDiff, reduceIte, Nat.reduceLeDiff, Nat.reduceMul, Nat.reduceSub, reduceCtorEq]) (by simp only [keepL, and_true, and_self, go_sem, *, Nat.reduceLT, Int.reduceEq, Int.reduceBEq, Int.reduceLE, Int.reduceLT, Nat.reduceAdd, Nat.reduceBEq, Nat.reduceEqDiff, reduceIte, Nat.reduceLeDiff, Nat.reduceMul, Nat.reduceSub, reduceCtorEq]) ?_
      all_goals refine ⟨?_, ?_⟩
      all_goals first | exact Z2 | skip
      rw [madeF]
      simp only [go_sem, *, Nat.reduceLT, Int.reduceEq, Int.reduceBEq, Int.reduceLE, Int.reduceLT, Nat.reduceAdd, Nat.reduceBEq, Nat.reduceEqDiff, reduceIte, Nat.reduceLeDiff, Nat.reduceMul, Nat.reduceSub, reduceCtorEq]
    ·have hd0 : decide ((k : Int) < ((m.rooms.length : Nat) : Int)) = false := by first | (simpa using hlt; done) | (simp only [decide_eq_false_iff_not]; omega)
     obtain rfl : k = m.rooms.length := by omega
     repeat' (first | refine goS ?_ | refine go2 (fun hh => ?_) (fun hh => ?_) | fail)
     all_goals (simp only [resV_def (X := dX cYH) Tryz.func107, Tryz.results107]; first | exact J5 | refine J6 ?_)
   ·cases h
  ·cases h
 ·cases h
end Go.AM
namespace Go.AM
open Go Go.Proofs
variable [Keep]
attribute [local irreducible] W WO WO1 WD WQ WT thenQ blockQ endR isRet retK Cl ClR
def Fl.tell : Fl → Fk
 | .no => ⟨1, 0, 0⟩
 | .fan n h => ⟨2, n, h⟩
 | .mach n h => ⟨3, n, h⟩
def sp136 : List AV → Option AV
 | [a] => (flV a).map fun f => fkC.enc f.tell
 | _ => none
theorem F136 : IntrFn Tryz.prog 136 (pureFn sp136) := by
 refine pure_fn (X := dX i0) i0_sound ?_ ?_
 ·intro args v h
  unfold sp136 at h
  split at h
  ·simp only [Option.map_eq_some_iff] at h
   obtain ⟨f, _, rfl⟩ := h
   rfl
  ·cases h
 intro args v h
 unfold sp136 at h
 split at h
 ·rename_i a
  simp only [Option.map_eq_some_iff] at h
  obtain ⟨f, hf, rfl⟩ := h
  obtain rfl := flV_is hf
  clear hf
  cases f
  all_goals
   simp only [Fl.enc, Fl.tell, fkC]
   refine ClR.walk (c := _) rfl Tryz.func136 rfl (by kernel_rfl) rfl isRet_fail ?_
   simp only [entryEnv, Nat.reduceAdd, emptyHp]
   repeat' (first | refine goS ?_ | refine go2 (fun hh => ?_) (fun hh => ?_) | fail)
   all_goals (simp only [resV_def (X := dX i0) Tryz.func136, Tryz.results136]; first | exact J5 | refine J6 ?_)
 ·cases h
theorem K136 {X : Ctx} (hX : X.intr 136 = some (pureFn sp136)) (f : Fl) (h : Heap) : Cl X 136 [f.enc] h (.ret (fkC.enc f.tell) h none) :=
 Cl.intr hX (by simp [pureFn, (fl_parts f).2.2.2, AV.purL, sp136, flV_enc])
end Go.AM
namespace Go.AM
open Go Go.Proofs
variable [Keep]
attribute [local irreducible] W WO WO1 WD WQ WT thenQ blockQ endR isRet retK Cl ClR
open Go.TX (Rm Fa Ha Hs)
attribute [local irreducible] roundQ RdR
section
variable {α σ : Type}
def foldS (f : α → σ → σ × Bool) : List α → σ → σ × Bool
 | [], s => (s, true)
 | x :: r, s => if (f x s).2 then foldS f r (f x s).1 else f x s
theorem foldS_go {f : α → σ → σ × Bool} {s s' : σ} : ∀ {l r : List α}, foldS f l s = (s', true) → foldS f (l ++ r) s = foldS f r s' := by
 intro l
 induction l generalizing s with
 | nil => intro r h; simp only [foldS, Prod.mk.injEq, and_true] at h; subst h; rfl
 | cons x l ih =>
  intro r h
  simp only [List.cons_append, foldS] at h ⊢
  split at h
  ·rename_i q; rw [if_pos q]; exact ih h
  ·rename_i q; rw [h] at q; exact absurd rfl q
theorem foldS_stop {f : α → σ → σ × Bool} {s s' : σ} : ∀ {l r : List α}, foldS f l s = (s', false) → foldS f (l ++ r) s = (s', false) := by
 intro l
 induction l generalizing s with
 | nil => intro r h; simp [foldS] at h
 | cons x l ih =>
  intro r h
  simp only [List.cons_append, foldS] at h ⊢
  split at h
  ·rename_i q; rw [if_pos q]; exact ih h
  ·rename_i q; rw [if_neg q]; exact h
theorem foldS_one {f : α → σ → σ × Bool} {s s' : σ} {l : List α} {x : α} (h : foldS f l s = (s', true)) : foldS f (l ++ [x]) s = f x s' := by
 rw [foldS_go h]
 simp only [foldS]
 split
 ·rename_i q; rw [← q]
 ·rfl
theorem foldS_pre {f : α → σ → σ × Bool} {s s' : σ} {l L : List α} (hp : l <+: L) (h : foldS f l s = (s', false)) : foldS f L s = (s', false) := by
 obtain ⟨r, rfl⟩ := hp
 exact foldS_stop h
end
def hourP (p : List Fl) (mk : Int → Fl) : Nat → List Fl
 | 0 => p
 | j + 1 => hourP p mk j ++ [mk j]
def fanP (n : Nat) : Nat → List Fl
 | 0 => [.no]
 | k + 1 => hourP (fanP n k) (fun j => .fan k j) n
def machP (n : Nat) (p : List Fl) : Nat → List Fl
 | 0 => p
 | k + 1 => hourP (machP n p k) (fun j => .mach k j) n
def failP (n fans rooms : Nat) : List Fl := machP n (fanP n fans) rooms
theorem hourP_pre {p : List Fl} {mk : Int → Fl} : ∀ {j n : Nat}, j ≤ n → hourP p mk j <+: hourP p mk n := by
 intro j n h
 induction n with
 | zero => obtain rfl : j = 0 := (by omega); exact List.prefix_refl _
 | succ n ih =>
  by_cases e : j = n + 1
  ·subst e; exact List.prefix_refl _
  ·exact (ih (by omega)).trans (List.prefix_append _ _)
theorem fanP_pre {n : Nat} : ∀ {k K : Nat}, k ≤ K → fanP n k <+: fanP n K := by
 intro k K h
 induction K with
 | zero => obtain rfl : k = 0 := (by omega); exact List.prefix_refl _
 | succ K ih =>
  by_cases e : k = K + 1
  ·subst e; exact List.prefix_refl _
  ·exact (ih (by omega)).trans (hourP_pre (j := 0) (Nat.zero_le _))
theorem machP_pre {n : Nat} {p : List Fl} : ∀ {k K : Nat}, k ≤ K → machP n p k <+: machP n p K := by
 intro k K h
 induction K with
 | zero => obtain rfl : k = 0 := (by omega); exact List.prefix_refl _
 | succ K ih =>
  by_cases e : k = K + 1
  ·subst e; exact List.prefix_refl _
  ·exact (ih (by omega)).trans (hourP_pre (j := 0) (Nat.zero_le _))
theorem fail_fan {n fans rooms k j : Nat} (hk : k < fans) (hj : j ≤ n) : hourP (fanP n k) (fun j => .fan k j) j <+: failP n fans rooms :=
 ((hourP_pre hj).trans (fanP_pre (n := n) (k := k + 1) (K := fans) (by omega))).trans (machP_pre (k := 0) (Nat.zero_le _))
theorem fail_mach {n fans rooms k j : Nat} (hk : k < rooms) (hj : j ≤ n) : hourP (machP n (fanP n fans) k) (fun j => .mach k j) j <+: failP n fans rooms :=
 (hourP_pre hj).trans (machP_pre (n := n) (k := k + 1) (K := rooms) (by omega))
theorem hourP_mem {p : List Fl} {mk : Int → Fl} {j : Nat} {L : List Fl} (h : hourP p mk (j + 1) <+: L) : mk j ∈ L := h.subset (by simp [hourP])
theorem fail_no {n fans rooms : Nat} : [Fl.no] <+: failP n fans rooms := (fanP_pre (n := n) (k := 0) (Nat.zero_le _)).trans (machP_pre (k := 0) (Nat.zero_le _))
def stI {σ : Type} (I D : σ → Heap → Prop) (v : Bool → AV) (x : σ × Bool) (r : COut) : Prop := ∃ h', r = .ret (v x.2) h' none ∧ (x.2 = true → I x.1 h') ∧ (x.2 = false → D x.1 h')
theorem stI_fail {σ : Type} {I D : σ → Heap → Prop} {v : Bool → AV} {x : σ × Bool} : ¬ stI I D v x .fail := by rintro ⟨h', e, _⟩; cases e
set_option maxHeartbeats 8000000 in
theorem C150 {σ : Type} (I D : σ → Heap → Prop) (step : Fl → σ → σ × Bool) (c : Itr) (hc : c 150 = none) (m : Hs) (ra fa oa ha : AV) (hr : slV rmC ra = some m.rooms) (hf : slV faC fa = some m.fans) (ho : outV (some oa) = some oa ∧ outV (some ha) = some ha) (nn : Nat) (hnn : m.hours = nn) (hn2 : nn ≤ 1000) (cid L : Nat)
  (hI : ∀ s h, I s h → h.get cid = some (.var [.int .i64 m.hours, ra, fa, oa, ha]))
  (hrd : ∀ fl s h, fl ∈ failP nn m.fans.length m.rooms.length → I s h → RdR (dX c) L [fl.enc] h (stI I D .bool (step fl s))) (s : σ) (h : Heap) (hs : I s h) :
  ClR (dX c) 150 (([] ++ [.yield L]) ++ [.ptr cid 0]) h (stI I D (fun _ => .tuple []) (foldS step (failP nn m.fans.length m.rooms.length) s)) := by
 have lf := sl_len hf
 have lr := sl_len hr
 have of_ := sl_out hf
 have or_ := sl_out hr
 have mf := sl_max hf
 have mr := sl_max hr
 obtain ⟨oo, oh⟩ := ho
 rw [hnn] at hI
 have hg := hI s h hs
 have h0 := hrd .no s h (fail_no.subset (by simp)) hs
 unfold RdR at h0
 obtain ⟨r, hyl, h', rfl, i1, i2⟩ := h0
 have HI := Lib.hid hI
 have HRD := Lib.hid hrd
 have HNN := Lib.hid hnn
 clear hI hrd hr hf hnn
 simp only [Fl.enc] at hyl
 obtain ⟨s1, b, hsb⟩ : ∃ s1 b, step .no s = (s1, b) := ⟨_, _, rfl⟩
 rw [hsb] at hyl i1 i2
 have HS := Lib.hid hs
 clear hs
 cases b with
 | false =>
  have hfin : foldS step (failP nn m.fans.length m.rooms.length) s = (s1, false) := foldS_pre fail_no (by simp only [foldS, hsb, Bool.false_eq_true, if_false])
  rw [hfin]
  have HD := Lib.hid (i2 rfl)
  clear i1 i2 hsb hfin
  refine ClR.walk (c := _) hc Tryz.func150 rfl (by kernel_rfl) rfl stI_fail ?_
  simp only [entryEnv, Nat.reduceAdd, List.nil_append, List.cons_append]
  repeat' (first | (apply WO1.round; exact Z1; exact Z1; (focus (exact hyl)); simp only [pM, pN, rR, rP]) | refine go1 ?_ | refine go2 (fun hh => ?_) (fun hh => ?_) | fail)
  all_goals (simp only [resV_def (X := dX c) Tryz.func150, Tryz.results150]; first | exact J5 | refine J6 ?_)
  exact ⟨_, rfl, (fun e => by cases e), fun _ => HD.out⟩
 | true =>
  have HI1 := Lib.hid (i1 rfl)
  have hg1 := HI.out s1 h' (i1 rfl)
  have HFO1 := Lib.hid (show foldS step (fanP nn 0) s = (s1, true) by simp only [fanP, foldS, hsb, if_true])
  have HN2 := Lib.hid hn2
  clear i1 i2 hsb hn2
  refine ClR.walk (c := _) hc Tryz.func150 rfl (by kernel_rfl) rfl stI_fail ?_
  simp only [entryEnv, Nat.reduceAdd, List.nil_append, List.cons_append]
  repeat' (first | (apply WO1.round; exact Z1; exact Z1; (focus (exact hyl)); simp only [pM, pN, rR, rP]) | refine go1 ?_ | refine go2 (fun hh => ?_) (fun hh => ?_) | fail)
  refine W.loopV (m.fans.length) [0, 1, 14] [] (fun k e lm hp => ∃ s1, e.get 15 = some (.int .i64 ↑k) ∧ I s1 hp ∧ foldS step (fanP nn k) s = (s1, true)) ?_ ?_
  ·skip
   refine ⟨s1, ?_, HI1.out, HFO1.out⟩
   simp [go_sem, *]
  intro k e lm hp hk0 hce hcl hinv
  simp only [keepE, and_true] at hce
  obtain ⟨c0, c1, c14⟩ := hce
  simp only [go_sem, *, Nat.reduceLT, Int.reduceEq, Int.reduceBEq, Int.reduceLE, Int.reduceLT, Nat.reduceAdd, Nat.reduceBEq, Nat.reduceEqDiff, reduceIte, Nat.reduceLeDiff, Nat.reduceMul, Nat.reduceSub, reduceCtorEq] at c0 c1 c14
  clear hcl
  obtain ⟨s1, h15, hi1, hfo1⟩ := hinv
  by_cases hlt : k < m.fans.length
  ·have hd0 : decide ((k : Int) < ((m.fans.length : Nat) : Int)) = true := by first | (simpa using hlt; done) | (simp only [decide_eq_true_eq]; omega)
   have hv_0 := wrap_succ hlt mf
   have hg1 := HI.out s1 hp hi1
   have HI1 := Lib.hid hi1
   have HFO1 := Lib.hid hfo1
   have HLT0 := Lib.hid hlt
   clear hi1 hfo1 hlt
   repeat' (first | refine goS ?_ | refine go2 (fun hh => ?_) (fun hh => ?_) | fail)
   refine W.loopV (nn) [0, 1, 3, 14, 15, 19] [] (fun j e1 lm1 hp1 => ∃ s2, e1.get 20 = some (.int .i64 ↑j) ∧ I s2 hp1 ∧ foldS step (hourP (fanP nn k) (fun j => .fan k j) j) s = (s2, true)) ?_ ?_
   ·skip
    refine ⟨s1, ?_, HI1.out, HFO1.out⟩
    simp [go_sem, *]
   intro j e1 lm1 hp1 hk1 hce hcl hinv
   simp only [keepE, and_true] at hce
   obtain ⟨c0, c1, c3, c14, c15, c19⟩ := hce
   simp only [go_sem, *, Nat.reduceLT, Int.reduceEq, Int.reduceBEq, Int.reduceLE, Int.reduceLT, Nat.reduceAdd, Nat.reduceBEq, Nat.reduceEqDiff, reduceIte, Nat.reduceLeDiff, Nat.reduceMul, Nat.reduceSub, reduceCtorEq] at c0 c1 c3 c14 c15 c19
   clear hcl
   obtain ⟨s2, h20, hi2, hfo2⟩ := hinv
   by_cases hjt : j < nn
   ·have hd1 : decide ((j : Int) < ((nn : Nat) : Int)) = true := by first | (simpa using hjt; done) | (simp only [decide_eq_true_eq]; omega)
    have hv_1 := wrap_succ hjt (by have := HN2.out; unfold maxL; omega)
    have hpre := fail_fan (n := nn) (fans := m.fans.length) (rooms := m.rooms.length) HLT0.out (j := j + 1) (by omega)
    have h2 := HRD.out (.fan k j) s2 hp1 (hourP_mem hpre) hi2
    have hg2 := HI.out s2 hp1 hi2
    unfold RdR at h2
    obtain ⟨r, hyl, h3, rfl, i1, i2⟩ := h2
    simp only [Fl.enc] at hyl
    obtain ⟨s3, b, hsb⟩ : ∃ s3 b, step (.fan k j) s2 = (s3, b) := ⟨_, _, rfl⟩
    rw [hsb] at hyl i1 i2
    have hfn : foldS step (hourP (fanP nn k) (fun j => .fan k j) (j + 1)) s = (s3, b) := by rw [hourP, foldS_one hfo2, hsb]
    have HFN := Lib.hid hfn
    have HPRE := Lib.hid hpre
    have HLT1 := Lib.hid hjt
    clear hi2 hfo2 hsb hfn hpre hjt
    cases b with
    | false =>
     have hfin := foldS_pre HPRE.out HFN.out
     rw [hfin]
     have HD := Lib.hid (i2 rfl)
     clear i1 i2 hfin
     repeat' (first | (apply WO1.round; exact Z1; exact Z1; (focus (exact hyl)); simp only [pM, pN, rR, rP]) | refine go1 ?_ | refine go2 (fun hh => ?_) (fun hh => ?_) | fail)
     all_goals (simp only [resV_def (X := dX c) Tryz.func150, Tryz.results150]; first | exact J5 | refine J6 ?_)
     exact ⟨_, rfl, (fun e => by cases e), fun _ => HD.out⟩
    | true =>
     have HI2 := Lib.hid (i1 rfl)
     clear i1 i2
     repeat' (first | (apply WO1.round; exact Z1; exact Z1; (focus (exact hyl)); simp only [pM, pN, rR, rP]) | refine go1 ?_ | refine go2 (fun hh => ?_) (fun hh => ?_) | fail)
     all_goals refine contV_mk (by first | assumption | exact HLT1.out) (by simp only [keepE, and_true, and_self, go_sem, *, Nat.reduceLT, Int.reduceEq, Int.reduceBEq, Int.reduceLE, Int.reduceLT, Nat.reduceAdd, Nat.reduceBEq, Nat.reduceEqDiff, reduceIte, Nat.reduceLeDiff, Nat.reduceMul, Nat.reduceSub, reduceCtorEq]) (by simp only [keepL, and_true, and_self, go_sem, *, Nat.reduceLT, Int.reduceEq, Int.reduceBEq, Int.reduceLE, Int.reduceLT, Nat.reduceAdd, Nat.reduceBEq, Nat.reduceEqDiff, reduceIte, Nat.reduceLeDiff, Nat.reduceMul, Nat.reduceSub, reduceCtorEq]) ?_
     all_goals refine ⟨s3, ?_, HI2.out, HFN.out⟩
     all_goals first | exact Z2 | skip
   ·have hd1 : decide ((j : Int) < ((nn : Nat) : Int)) = false := by first | (simpa using hjt; done) | (simp only [decide_eq_false_iff_not]; omega)
    obtain rfl : j = nn := by omega
    have HI2 := Lib.hid hi2
    have HFO2 := Lib.hid hfo2
    clear hi2 hfo2
    repeat' (first | refine goS ?_ | refine go2 (fun hh => ?_) (fun hh => ?_) | fail)
    all_goals refine contV_mk (by first | assumption | exact HLT1.out) (by simp only [keepE, and_true, and_self, go_sem, *, Nat.reduceLT, Int.reduceEq, Int.reduceBEq, Int.reduceLE, Int.reduceLT, Nat.reduceAdd, Nat.reduceBEq, Nat.reduceEqDiff, reduceIte, Nat.reduceLeDiff, Nat.reduceMul, Nat.reduceSub, reduceCtorEq]) (by simp only [keepL, and_true, and_self, go_sem, *, Nat.reduceLT, Int.reduceEq, Int.reduceBEq, Int.reduceLE, Int.reduceLT, Nat.reduceAdd, Nat.reduceBEq, Nat.reduceEqDiff, reduceIte, Nat.reduceLeDiff, Nat.reduceMul, Nat.reduceSub, reduceCtorEq]) ?_
    all_goals refine ⟨s2, ?_, HI2.out, ?_⟩
    all_goals first | exact Z2 | skip
    exact HFO2.out
  ·have hd0 : decide ((k : Int) < ((m.fans.length : Nat) : Int)) = false := by first | (simpa using hlt; done) | (simp only [decide_eq_false_iff_not]; omega)
   obtain rfl : k = m.fans.length := by omega
   have hg1 := HI.out s1 hp hi1
   have HI1 := Lib.hid hi1
   have HFO1 := Lib.hid hfo1
   clear hi1 hfo1
   repeat' (first | refine goS ?_ | refine go2 (fun hh => ?_) (fun hh => ?_) | fail)
   refine W.loopV (m.rooms.length) [0, 1, 34] [] (fun j e1 lm1 hp1 => ∃ s1, e1.get 35 = some (.int .i64 ↑j) ∧ I s1 hp1 ∧ foldS step (machP nn (fanP nn m.fans.length) j) s = (s1, true)) ?_ ?_
   ·skip
    refine ⟨s1, ?_, HI1.out, HFO1.out⟩
    simp [go_sem, *]
   intro j e1 lm1 hp1 hk1 hce hcl hinv
   simp only [keepE, and_true] at hce
   obtain ⟨c0, c1, c34⟩ := hce
   simp only [go_sem, *, Nat.reduceLT, Int.reduceEq, Int.reduceBEq, Int.reduceLE, Int.reduceLT, Nat.reduceAdd, Nat.reduceBEq, Nat.reduceEqDiff, reduceIte, Nat.reduceLeDiff, Nat.reduceMul, Nat.reduceSub, reduceCtorEq] at c0 c1 c34
   clear hcl
   obtain ⟨s1, h35, hi1, hfo1⟩ := hinv
   by_cases hjt : j < m.rooms.length
   ·have hd1 : decide ((j : Int) < ((m.rooms.length : Nat) : Int)) = true := by first | (simpa using hjt; done) | (simp only [decide_eq_true_eq]; omega)
    have hv_1 := wrap_succ hjt mr
    have hg1 := HI.out s1 hp1 hi1
    have HI1 := Lib.hid hi1
    have HFO1 := Lib.hid hfo1
    have HLT1 := Lib.hid hjt
    clear hi1 hfo1 hjt
    repeat' (first | refine goS ?_ | refine go2 (fun hh => ?_) (fun hh => ?_) | fail)
    refine W.loopV (nn) [0, 1, 5, 34, 35, 39] [] (fun i e2 lm2 hp2 => ∃ s2, e2.get 40 = some (.int .i64 ↑i) ∧ I s2 hp2 ∧ foldS step (hourP (machP nn (fanP nn m.fans.length) j) (fun i => .mach j i) i) s = (s2, true)) ?_ ?_
    ·skip
     refine ⟨s1, ?_, HI1.out, HFO1.out⟩
     simp [go_sem, *]
    intro i e2 lm2 hp2 hk2 hce hcl hinv
    simp only [keepE, and_true] at hce
    obtain ⟨c0, c1, c5, c34, c35, c39⟩ := hce
    simp only [go_sem, *, Nat.reduceLT, Int.reduceEq, Int.reduceBEq, Int.reduceLE, Int.reduceLT, Nat.reduceAdd, Nat.reduceBEq, Nat.reduceEqDiff, reduceIte, Nat.reduceLeDiff, Nat.reduceMul, Nat.reduceSub, reduceCtorEq] at c0 c1 c5 c34 c35 c39
    clear hcl
    obtain ⟨s2, h40, hi2, hfo2⟩ := hinv
    by_cases hit : i < nn
    ·have hd2 : decide ((i : Int) < ((nn : Nat) : Int)) = true := by first | (simpa using hit; done) | (simp only [decide_eq_true_eq]; omega)
     have hv_2 := wrap_succ hit (by have := HN2.out; unfold maxL; omega)
     have hpre := fail_mach (n := nn) (fans := m.fans.length) (rooms := m.rooms.length) HLT1.out (j := i + 1) (by omega)
     have h2 := HRD.out (.mach j i) s2 hp2 (hourP_mem hpre) hi2
     have hg2 := HI.out s2 hp2 hi2
     unfold RdR at h2
     obtain ⟨r, hyl, h3, rfl, i1, i2⟩ := h2
     simp only [Fl.enc] at hyl
     obtain ⟨s3, b, hsb⟩ : ∃ s3 b, step (.mach j i) s2 = (s3, b) := ⟨_, _, rfl⟩
     rw [hsb] at hyl i1 i2
     have hfn : foldS step (hourP (machP nn (fanP nn m.fans.length) j) (fun i => .mach j i) (i + 1)) s = (s3, b) := by rw [hourP, foldS_one hfo2, hsb]
     have HFN := Lib.hid hfn
     have HPRE := Lib.hid hpre
     have HLT2 := Lib.hid hit
     clear hi2 hfo2 hsb hfn hpre hit
     cases b with
     | false =>
      have hfin := foldS_pre HPRE.out HFN.out
      rw [hfin]
      have HD := Lib.hid (i2 rfl)
      clear i1 i2 hfin
      repeat' (first | (apply WO1.round; exact Z1; exact Z1; (focus (exact hyl)); simp only [pM, pN, rR, rP]) | refine go1 ?_ | refine go2 (fun hh => ?_) (fun hh => ?_) | fail)
      all_goals (simp only [resV_def (X := dX c) Tryz.func150, Tryz.results150]; first | exact J5 | refine J6 ?_)
      exact ⟨_, rfl, (fun e => by cases e), fun _ => HD.out⟩
     | true =>
      have HI2 := Lib.hid (i1 rfl)
      clear i1 i2
      repeat' (first | (apply WO1.round; exact Z1; exact Z1; (focus (exact hyl)); simp only [pM, pN, rR, rP]) | refine go1 ?_ | refine go2 (fun hh => ?_) (fun hh => ?_) | fail)
      all_goals refine contV_mk (by first | assumption | exact HLT2.out) (by simp only [keepE, and_true, and_self, go_sem, *, Nat.reduceLT, Int.reduceEq, Int.reduceBEq, Int.reduceLE, Int.reduceLT, Nat.reduceAdd, Nat.reduceBEq, Nat.reduceEqDiff, reduceIte, Nat.reduceLeDiff, Nat.reduceMul, Nat.reduceSub, reduceCtorEq]) (by simp only [keepL, and_true, and_self, go_sem, *, Nat.reduceLT, Int.reduceEq, Int.reduceBEq, Int.reduceLE, Int.reduceLT, Nat.reduceAdd, Nat.reduceBEq, Nat.reduceEqDiff, reduceIte, Nat.reduceLeDiff, Nat.reduceMul, Nat.reduceSub, reduceCtorEq]) ?_
      all_goals refine ⟨s3, ?_, HI2.out, HFN.out⟩
      all_goals first | exact Z2 | skip
    ·have hd2 : decide ((i : Int) < ((nn : Nat) : Int)) = false := by first | (simpa using hit; done) | (simp only [decide_eq_false_iff_not]; omega)
     obtain rfl : i = nn := by omega
     have HI2 := Lib.hid hi2
     have HFO2 := Lib.hid hfo2
     clear hi2 hfo2
     repeat' (first | refine goS ?_ | refine go2 (fun hh => ?_) (fun hh => ?_) | fail)
     all_goals refine contV_mk (by first | assumption | exact HLT2.out) (by simp only [keepE, and_true, and_self, go_sem, *, Nat.reduceLT, Int.reduceEq, Int.reduceBEq, Int.reduceLE, Int.reduceLT, Nat.reduceAdd, Nat.reduceBEq, Nat.reduceEqDiff, reduceIte, Nat.reduceLeDiff, Nat.reduceMul, Nat.reduceSub, reduceCtorEq]) (by simp only [keepL, and_true, and_self, go_sem, *, Nat.reduceLT, Int.reduceEq, Int.reduceBEq, Int.reduceLE, Int.reduceLT, Nat.reduceAdd, Nat.reduceBEq, Nat.reduceEqDiff, reduceIte, Nat.reduceLeDiff, Nat.reduceMul, Nat.reduceSub, reduceCtorEq]) ?_
     all_goals refine ⟨s2, ?_, HI2.out, ?_⟩
     all_goals first | exact Z2 | skip
     exact HFO2.out
   ·have hd1 : decide ((j : Int) < ((m.rooms.length : Nat) : Int)) = false := by first | (simpa using hjt; done) | (simp only [decide_eq_false_iff_not]; omega)
    obtain rfl : j = m.rooms.length := by omega
    have hfin : foldS step (failP nn m.fans.length m.rooms.length) s = (s1, true) := hfo1
    rw [hfin]
    have HI1 := Lib.hid hi1
    clear hi1 hfo1 hfin
    repeat' (first | refine goS ?_ | refine go2 (fun hh => ?_) (fun hh => ?_) | fail)
    simp only [eN]
    all_goals (simp only [resV_def (X := dX c) Tryz.func150, Tryz.results150]; first | exact J5 | refine J6 ?_)
    exact ⟨_, rfl, (fun _ => HI1.out), fun e => by cases e⟩
end Go.AM
namespace Go.AM
open Go Go.Proofs
variable [Keep]
attribute [local irreducible] W WO WO1 WD WQ WT thenQ blockQ endR isRet retK Cl ClR
open Go.TX (Rm Fa Ha Hs)
attribute [local irreducible] roundQ RdR
theorem W.rangeEnds {X : Ctx} {F : Fr} {Q : Out → Prop} {g : Operand} {params : Array Tmp} {assign body : Code} {fid : FuncId} {first capt : List AV} {R : COut → Prop} (hg : F.opv g = some (.func (.func fid) first capt))
  (hc : ClR X fid ((first ++ [.yield F.hp.next]) ++ capt) (F.hp.new (.loop F.f (F.e.map noBox) params.toList assign body .ready none)) R)
  (h : ∀ r, Cl X fid ((first ++ [.yield F.hp.next]) ++ capt) (F.hp.new (.loop F.f (F.e.map noBox) params.toList assign body .ready none)) r → R r → W X (.rangeFunc g params assign body) F Q) : W X (.rangeFunc g params assign body) F Q := by
 unfold ClR at hc
 obtain ⟨r, h1, h2⟩ := hc
 exact h r h1 h2
theorem stI_go {σ : Type} {I D : σ → Heap → Prop} {v : Bool → AV} {x : σ × Bool} {s' : σ} {h' : Heap} (e : x = (s', true)) (i : I s' h') : stI I D v x (.ret (v true) h' none) := by
 subst e; exact ⟨h', rfl, fun _ => i, fun e => by cases e⟩
theorem stI_end {σ : Type} {I D : σ → Heap → Prop} {v : Bool → AV} {x : σ × Bool} {s' : σ} {h' : Heap} (e : x = (s', false)) (i : D s' h') : stI I D v x (.ret (v false) h' none) := by
 subst e; exact ⟨h', rfl, (fun e => by cases e), fun _ => i⟩
theorem C108 (c : Itr) (hc : c 108 = none) (n : Int) (ra fa oa ha : AV) (h1 : outV (some ra) = some ra) (h2 : outV (some fa) = some fa) (h3 : outV (some oa) = some oa) (h4 : outV (some ha) = some ha) (hn : Nat) (hm : Mp Blk) :
  Cl (dX c) 108 [.agg [.int .i64 n, ra, fa, oa, ha]] ⟨hn, hm⟩ (.ret (.func (.func 150) [] [.ptr hn 0]) ⟨hn + 1, hm.set hn (.var [.int .i64 n, ra, fa, oa, ha])⟩ none) := by
 refine ClR.cl ?_
 refine ClR.walk (c := _) hc Tryz.func108 rfl (by kernel_rfl) rfl (fun e => by cases e) ?_
 simp only [entryEnv, Nat.reduceAdd, List.nil_append, List.cons_append]
 repeat' (first | refine goS ?_ | refine go2 (fun hh => ?_) (fun hh => ?_) | fail)
 all_goals (simp only [resV_def (X := dX c) Tryz.func108, Tryz.results108]; first | exact J5 | refine J6 ?_)
 all_goals rfl
theorem fk_eq (a b : Fk) : binV Tryz.prog .eql 52 false (fkC.enc a) (fkC.enc b) = some (.bool (a.what == b.what && a.num == b.num && a.hour == b.hour)) := by
 have hst : Tryz.prog.stoodInHeld 52 = false := by kernel_rfl
 have l50 : lay Tryz.prog 50 = some (false, 1) := by kernel_rfl
 have e3 : ∀ x y : Int, eqT Tryz.prog 7 3 (.int .i64 x) (.int .i64 y) = some (x == y) := fun x y => by rw [eqT.eq_def]; simp only [Tryz.underlying3, if_true]
 have e50 : ∀ x y : Int, eqT Tryz.prog 7 50 (.int .i64 x) (.int .i64 y) = some (x == y) := fun x y => by rw [eqT.eq_def]; simp only [Tryz.underlying50, if_true]
 have h : eqT Tryz.prog 8 52 (fkC.enc a) (fkC.enc b) = some (a.what == b.what && a.num == b.num && a.hour == b.hour) := by
  rw [eqT.eq_def]
  simp only [Tryz.underlying52, fkC, hst, Bool.false_eq_true, if_false]
  generalize eqT Tryz.prog 7 = f at *
  simp [eqFields, readT, readAt, l50, ty_lay3, e3, e50]
  cases a.what == b.what <;> cases a.num == b.num <;> cases a.hour == b.hour <;> rfl
 simp only [fkC] at h ⊢
 have hgd : Tryz.prog.eqGuardType Tryz.prog.depth 52 = false := by kernel_rfl
 simp only [binV, eqOp, eqV, eqDepth, h, hgd, Bool.false_eq_true, if_false]
def fkEq (a b : Fk) : Bool := a.what == b.what && a.num == b.num && a.hour == b.hour
def findF (x : Fk) : List Fl → Option Fl
 | [] => none
 | f :: r => if fkEq f.tell x then some f else findF x r
def Same {σ : Type} (K : Nat) (h0 : Heap) (_ : σ) (h : Heap) : Prop := ∀ id, id < K → h.get id = h0.get id
def Found (hv : List AV) (s : Option Fl) (h : Heap) : Prop := ∃ f, s = some f ∧ h.get 2 = some (.var (hv ++ [f.enc])) ∧ h.get 3 = some (.var [.bool true]) ∧ ∃ g e pl a b, h.get 5 = some (.loop g e pl a b .done (some .ret))
def stepF (x : Fk) (f : Fl) (s : Option Fl) : Option Fl × Bool := if fkEq f.tell x = true then (some f, false) else (s, true)
theorem fold_find (x : Fk) : ∀ (l : List Fl) (s : Option Fl), foldS (stepF x) l s = match findF x l with | some f => (some f, false) | none => (s, true)
 | [], s => rfl
 | f :: r, s => by
  simp only [foldS, findF, stepF]
  by_cases h : fkEq f.tell x = true
  ·simp [h]
  ·have h : fkEq f.tell x = false := by simpa using h
   simp only [h, Bool.false_eq_true, if_false, if_true]
   have := fold_find x r s
   unfold stepF at this
   exact this
def zero157 : AV := .agg [.int .i64 0, .nilslice, .nilslice, .nilslice, .nilslice, .niliface]
def sp106 : List AV → Option AV
 | [.agg [.int .i64 n, ra, fa, oa, ha], .agg [.int .i64 w, .int .i64 a, .int .i64 b]] => match hsV (.agg [.int .i64 n, ra, fa, oa, ha]) with
  | some m => if walkB m = true then some (match findF ⟨w, a, b⟩ (failP m.hours.toNat m.fans.length m.rooms.length) with
   | some f => .tuple [.agg [.int .i64 n, ra, fa, oa, ha, f.enc], .bool true]
   | none => .tuple [zero157, .bool false]) else none
  | none => none
 | _ => none
set_option maxHeartbeats 8000000 in
theorem C106 (m : Hs) (ra fa oa ha : AV) (c : Itr) (hc : c 106 = none) (hc1 : c 108 = none) (hc2 : c 150 = none) (hc3 : c 136 = some (pureFn sp136)) (v1 : slV rmC ra = some m.rooms) (v2 : slV faC fa = some m.fans) (v3 : slV intC oa = some m.op) (v4 : slV haC ha = some m.hands) (nn : Nat) (hnn : m.hours = nn) (hn2 : nn ≤ 1000) (x : Fk) :
  ClR (dX c) 106 [.agg [.int .i64 m.hours, ra, fa, oa, ha], .agg [.int .i64 x.what, .int .i64 x.num, .int .i64 x.hour]] emptyHp (isRet (match findF x (failP nn m.fans.length m.rooms.length) with
   | some f => .tuple [.agg [.int .i64 m.hours, ra, fa, oa, ha, f.enc], .bool true]
   | none => .tuple [zero157, .bool false])) := by
 have o1 := sl_out v1
 have o2 := sl_out v2
 have o3 := sl_out v3
 have o4 := sl_out v4
 have f1 := (slV_is v1).1.frz1
 have f2 := (slV_is v2).1.frz1
 have f3 := (slV_is v3).1.frz1
 have f4 := (slV_is v4).1.frz1
 have f5 : ∀ (f : Fl) H, frz1 H f.enc = some (f.enc, H) := fun f H => by cases f <;> rfl
 have h108 := C108 c hc1 m.hours ra fa oa ha o1 o2 o3 o4 4
 have k136 := fun f h => K136 (X := dX c) hc3 f h
 have H1 := Lib.hid v1
 have H2 := Lib.hid v2
 have c150 := fun (I D : Option Fl → Heap → Prop) (L : Nat) => C150 I D (stepF x) c hc2 m ra fa oa ha v1 v2 ⟨o3, o4⟩ nn hnn hn2 4 L
 rw [hnn] at h108 c150 ⊢
 have HC := Lib.hid c150
 clear hnn hn2 v1 v2 v3 v4 c150
 refine ClR.walk (c := _) hc Tryz.func106 rfl (by kernel_rfl) rfl isRet_fail ?_
 simp only [entryEnv, Nat.reduceAdd, emptyHp]
 repeat' (first | refine goS ?_ | (apply U6; exact Z1; exact Z1; (focus (simp only [List.nil_append, List.append_nil]; first | exact h108 _)); simp only [pM, pN, rR, rP]) | refine go2 (fun hh => ?_) (fun hh => ?_) | fail)
 apply W.rangeEnds (R := stI (Same 6 _) (Found [.int .i64 ↑nn, ra, fa, oa, ha]) (fun _ => .tuple []) (foldS (stepF x) (failP nn m.fans.length m.rooms.length) none))
 ·exact Z1
 ·refine HC.out _ _ 5 ?_ ?_ none _ (fun _ _ => rfl)
  ·intro s h hs
   rw [hs 4 (by omega)]
   simp [Heap.new, Heap.get]
  ·intro fl s h hm hs
   have g0 : h.get 0 = some (.var [.int .i64 ↑nn, ra, fa, oa, ha]) := by rw [hs 0 (by omega)]; simp [Heap.new, Heap.get]
   have g1 : h.get 1 = some (.var [.int .i64 x.what, .int .i64 x.num, .int .i64 x.hour]) := by rw [hs 1 (by omega)]; simp [Heap.new, Heap.get]
   have g2 : h.get 2 = some (.var [.int .i64 0, .nilslice, .nilslice, .nilslice, .nilslice, .niliface]) := by rw [hs 2 (by omega)]; simp [Heap.new, Heap.get]
   have g3 : h.get 3 = some (.var [.bool false]) := by rw [hs 3 (by omega)]; simp [Heap.new, Heap.get]
   have hL := hs 5 (by omega)
   rw [Heap.get_new, if_pos rfl] at hL
   obtain ⟨er, hE, hL⟩ : ∃ er, er = _ ∧ h.get 5 = some (.loop 106 er _ _ _ .ready none) := ⟨_, rfl, hL⟩
   have r2 : er.get 2 = some (.ptr 0 0) := by rw [hE, Mp.get_map]; simp [go_sem, *, noBox]
   have r3 : er.get 3 = some (.ptr 1 0) := by rw [hE, Mp.get_map]; simp [go_sem, *, noBox]
   have r4 : er.get 4 = some (.ptr 2 0) := by rw [hE, Mp.get_map]; simp [go_sem, *, noBox]
   have r5 : er.get 5 = some (.ptr 3 0) := by rw [hE, Mp.get_map]; simp [go_sem, *, noBox]
   obtain ⟨fo, fcl, fit, _⟩ := fl_parts fl
   have k136 := k136 fl
   have heq : binV Tryz.prog .eql 52 false (fkC.enc fl.tell) (.agg [.int .i64 x.what, .int .i64 x.num, .int .i64 x.hour]) = some (.bool (fkEq fl.tell x)) := by
    exact fk_eq fl.tell x
   have HS := Lib.hid hs
   have HL := Lib.hid hL
   simp only [AV.cells] at fcl
   simp only [isTuple] at fit
   simp only [fkC] at k136 heq
   refine round_ok' hL rfl ?_
   clear hL hE hs
   generalize hfv : fl.enc = fv at *
   have HFV := Lib.hid hfv
   clear hfv
   repeat' (first | refine goS ?_ | refine go2 (fun hh => ?_) (fun hh => ?_) | fail)
   rintro ⟨qn, qm⟩ hqn hqg hqL
   have q0 := (hqg 0 (by omega)).trans g0
   have q1 := (hqg 1 (by omega)).trans g1
   have q2 := (hqg 2 (by omega)).trans g2
   have q3 := (hqg 3 (by omega)).trans g3
   have HQN := Lib.hid hqn
   have HQG := Lib.hid hqg
   have HQL := Lib.hid hqL
   simp only [hp_get] at q0 q1 q2 q3
   clear hqn hqg hqL g0 g1 g2 g3
   cases hb : fkEq fl.tell x with
   | false =>
    rw [hb] at heq
    repeat' (first | (apply W.drawQ (id := 3) (l1 := [0, 1, 2, 3]) (l2 := []); kernel_rfl; kernel_rfl; kernel_rfl; exact Z4) | refine go1 ?_ | (apply U6; exact Z1; exact Z1; (focus (simp only [List.nil_append, List.append_nil]; first | exact k136 _)); simp only [pM, pN, rR, rP]) | refine go2 (fun hh => ?_) (fun hh => ?_) | fail)
    rw [roundQ_norm]
    simp only [endV, HQL.out]
    refine stI_go (v := .bool) (s' := s) (by unfold stepF; rw [hb]; rfl) ?_
    intro id hid
    by_cases h5 : id = 5
    ·subst h5
     rw [Heap.get_put, if_pos rfl, ← HL.out]
     exact HS.out 5 hid
    ·rw [Heap.get_put, if_neg (fun e => h5 e.symm), HQG.out id h5]
     exact HS.out id hid
   | true =>
    rw [hb] at heq
    repeat' (first | (apply W.drawQ (id := 3) (l1 := [0, 1, 2, 3]) (l2 := []); kernel_rfl; kernel_rfl; kernel_rfl; exact Z4) | refine go1 ?_ | (apply U6; exact Z1; exact Z1; (focus (simp only [List.nil_append, List.append_nil]; first | exact k136 _)); simp only [pM, pN, rR, rP]) | refine go2 (fun hh => ?_) (fun hh => ?_) | fail)
    rw [roundQ_ret]
    have eL := HQL.out
    simp only [hp_get] at eL
    simp only [endV, hp_get, Mp.get_set, eL, hp_put]
    refine stI_end (v := .bool) (s' := some fl) (by unfold stepF; rw [hb]; rfl) ?_
    refine ⟨fl, rfl, ?_, ?_, ?_⟩
    ·rw [hp_get]; simp [HFV.out]
    ·rw [hp_get]; simp
    ·exact ⟨_, _, _, _, _, (Mp.get_set _ _ _ _).trans (if_pos rfl)⟩
 ·intro r hcl hR
  rw [fold_find] at hR
  cases hf : findF x (failP nn m.fans.length m.rooms.length) with
  | none =>
   rw [hf] at hR
   obtain ⟨h', rfl, i1, _⟩ := hR
   have hs := i1 rfl
   have hL := hs 5 (by omega)
   rw [Heap.get_new, if_pos rfl] at hL
   have g2 : h'.get 2 = some (.var [.int .i64 0, .nilslice, .nilslice, .nilslice, .nilslice, .niliface]) := by rw [hs 2 (by omega)]; simp [Heap.new, Heap.get]
   have g3 : h'.get 3 = some (.var [.bool false]) := by rw [hs 3 (by omega)]; simp [Heap.new, Heap.get]
   clear hs i1 k136 HC H1 H2 h108 hf
   refine W.rangeNorm rfl ?_ hcl hL (fun e => by cases e) ?_
   ·first | exact Z2 | exact Z1
   clear hcl hL
   generalize hput : Heap.put h' _ _ = hz
   obtain ⟨zn, zm⟩ := hz
   have z2 : zm.get 2 = some (.var [.int .i64 0, .nilslice, .nilslice, .nilslice, .nilslice, .niliface]) := by
    rw [← hp_get (n := zn), ← hput, Heap.get_put, if_neg (by simp only; omega)]
    exact g2
   have z3 : zm.get 3 = some (.var [.bool false]) := by
    rw [← hp_get (n := zn), ← hput, Heap.get_put, if_neg (by simp only; omega)]
    exact g3
   clear hput g2 g3
   simp only [bN, tN]
   repeat' (first | refine goS ?_ | refine go2 (fun hh => ?_) (fun hh => ?_) | fail)
   all_goals (simp only [resV_def (X := dX c) Tryz.func106, Tryz.results106]; first | exact J5 | refine J6 ?_)
   all_goals rfl
  | some f =>
   rw [hf] at hR
   obtain ⟨h', rfl, _, i2⟩ := hR
   obtain ⟨f', e1, g2, g3, g, e, pl, a, b, g5⟩ := i2 rfl
   cases e1
   clear i2 k136 HC H1 H2 h108 hf
   refine W.rangeRet rfl ?_ hcl g5 (fun e => by cases e) ?_
   ·first | exact Z2 | exact Z1
   clear hcl
   generalize hput : Heap.put h' _ _ = hz
   obtain ⟨zn, zm⟩ := hz
   have z2 : zm.get 2 = some (.var [.int .i64 ↑nn, ra, fa, oa, ha, f.enc]) := by
    rw [← hp_get (n := zn), ← hput, Heap.get_put, if_neg (by simp only; omega)]
    exact g2
   have z3 : zm.get 3 = some (.var [.bool true]) := by
    rw [← hp_get (n := zn), ← hput, Heap.get_put, if_neg (by simp only; omega)]
    exact g3
   clear hput g2 g3 g5
   simp only [tR, bR, eR, true_and]
   (simp only [resV_def (X := dX c) Tryz.func106, Tryz.results106]; first | exact J5 | refine J6 ?_)
   all_goals rfl
end Go.AM
namespace Go.AM
open Go Go.Proofs
variable [Keep]
attribute [local irreducible] W WO WO1 WD WQ WT thenQ blockQ endR isRet retK Cl ClR
open Go.TX (Rm Fa Ha Hs)
attribute [local irreducible] failP madeF findF
noncomputable def cYM : Itr
 | 136 => some (pureFn sp136)
 | _ => none
theorem cYM_sound : Sound (dX cYM) := dX_sound (fun f g h => by
 unfold cYM at h
 split at h
 ·cases h; exact F136
 ·cases h)
theorem hs_parts {m : Hs} {n : Int} {ra fa oa ha : AV} (h : hsV (.agg [.int .i64 n, ra, fa, oa, ha]) = some m) : n = m.hours ∧ slV rmC ra = some m.rooms ∧ slV faC fa = some m.fans ∧ slV intC oa = some m.op ∧ slV haC ha = some m.hands := by
 obtain ⟨ra', fa', oa', ha', heq, v1, v2, v3, v4⟩ := hsV_is h
 cases heq
 exact ⟨rfl, v1, v2, v3, v4⟩
theorem p106 : ∀ args v, sp106 args = some v → v.pur = true := by
 intro args v h
 unfold sp106 at h
 split at h
 ·split at h
  ·rename_i m hm
   obtain ⟨_, v1, v2, v3, v4⟩ := hs_parts hm
   split at h
   ·cases h
    split
    ·rename_i f _
     simp [AV.pur, AV.purL, sl_pur v1, sl_pur v2, sl_pur v3, sl_pur v4, (fl_parts f).2.2.2]
    ·rfl
   ·cases h
  ·cases h
 ·cases h
theorem F106 : IntrFn Tryz.prog 106 (pureFn sp106) := by
 refine pure_fn (X := dX cYM) cYM_sound p106 ?_
 intro args v h
 unfold sp106 at h
 split at h
 ·rename_i n ra fa oa ha w a b
  split at h
  ·rename_i m hm
   obtain ⟨rfl, v1, v2, v3, v4⟩ := hs_parts hm
   split at h
   ·rename_i hw
    have h := Option.some.inj h
    subst h
    unfold walkB at hw
    simp only [Bool.and_eq_true, decide_eq_true_eq] at hw
    exact C106 m ra fa oa ha cYM rfl rfl rfl rfl v1 v2 v3 v4 m.hours.toNat (by omega) (by omega) ⟨w, a, b⟩
   ·cases h
  ·cases h
 ·cases h
end Go.AM
