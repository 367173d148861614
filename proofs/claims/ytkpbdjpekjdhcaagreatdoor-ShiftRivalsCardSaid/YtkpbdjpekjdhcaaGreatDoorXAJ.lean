/-
  A part of the proof: contracts of functions.
-/
import Derived.Test.YtkpbdjpekjdhcaaGreatDoorXAI
set_option linter.unusedSectionVars false
set_option linter.unusedVariables false
set_option linter.unusedSimpArgs false
set_option maxRecDepth 100000
namespace Go.AM
open Go Go.Proofs
variable [Keep]
attribute [local irreducible] W WO WO1 WD WQ WT thenQ blockQ endR isRet retK Cl ClR
open Go.TX (Rm Fa Ha Hs)
def sp85 : List AV -> Option AV
 | [.int .i64 n] => if (decide (0 <= n) && decide (n <= 60)) = true then some (.int .i64 (2 ^ n.toNat)) else none
 | _ => none
theorem p85 : ∀ args v, sp85 args = some v -> v.pur = true := by
 intro args v h
 unfold sp85 at h
 split at h
 ·split at h <;> cases h; rfl
 ·cases h
theorem pow_le {k : Nat} (h : k <= 60) : (0 : Int) < 2 ^ k /\ (2 : Int) ^ k <= 1152921504606846976 := by
 have h1 : (2 : Nat) ^ k <= 2 ^ 60 := Nat.pow_le_pow_right (by decide) h
 have h2 : 0 < (2 : Nat) ^ k := Nat.pow_pos (by decide)
 have h3 : ((2 : Nat) ^ 60 : Nat) = 1152921504606846976 := by decide
 have h4 : (2 : Int) ^ k = ((2 ^ k : Nat) : Int) := by simp
 omega
theorem F85 : IntrFn Tryz.prog 85 (pureFn sp85) := by
 refine pure_fn (X := dX i0) i0_sound p85 ?_
 intro args v h
 unfold sp85 at h
 split at h
 ·rename_i n
  split at h
  ·rename_i hg
   cases h
   simp only [Bool.and_eq_true, decide_eq_true_eq] at hg
   obtain ⟨n, rfl⟩ : ∃ m : Nat, n = m := ⟨n.toNat, by omega⟩
   have hn : n <= 60 := by omega
   rw [Int.toNat_natCast]
   clear hg
   refine ClR.walk (c := _) rfl Tryz.func85 rfl (by kernel_rfl) rfl isRet_fail ?_
   simp only [entryEnv, Nat.reduceAdd]
   repeat' (first | refine goS ?_ | (refine go2 ?_ ?_ <;> intro hh) | fail)
   refine W.loopH (n) [0] [] (fun k e lm => e.get 4 = some (.int .i64 ↑k) /\ e.get 3 = some (.int .i64 (2 ^ k))) ?_ ?_
   ·refine ⟨?_, ?_⟩ <;> first | exact Z2 | rfl | assumption | (simp [go_sem, *]; done)
   intro k e lm hk0 hce hcl hinv
   simp only [keepE, and_true] at hce
   have c0 := hce
   clear hce
   simp only [go_sem, *, Nat.reduceBEq, Nat.reduceEqDiff, reduceIte] at c0
   clear hcl
   obtain ⟨h4, h3⟩ := hinv
   by_cases hlt : k < n
   ·have hd0 : decide ((k : Int) < ((n : Nat) : Int)) = true := by simpa using hlt
    have hv_0 := wrap_succ hlt (by unfold maxL; omega)
    have hp := pow_le (k := k + 1) (by omega)
    have e1 : (2 : Int) ^ (k + 1) = 2 * 2 ^ k := by rw [Int.pow_succ, Int.mul_comm]
    have hm : IntKind.i64.wrap (2 * 2 ^ k) = 2 ^ (k + 1) := by rw [<- e1]; exact wrap_small (by omega) (by omega)
    clear hp e1
    repeat' (first | refine goS ?_ | (refine go2 ?_ ?_ <;> intro hh) | fail)
    all_goals refine contH_mk J9 J7 J8 ?_
    all_goals refine ⟨?_, ?_⟩
    all_goals first | exact Z2 | skip
   ·have hd0 : decide ((k : Int) < ((n : Nat) : Int)) = false := by simpa using hlt
    obtain rfl : k = n := by omega
    repeat' (first | refine goS ?_ | (refine go2 ?_ ?_ <;> intro hh) | fail)
    all_goals (simp only [resV_def (X := dX i0) Tryz.func85, Tryz.results85]; first | exact J5 | refine J6 ?_)
    all_goals rfl
  ·cases h
 ·cases h
theorem K85 {X : Ctx} (hX : X.intr 85 = some (pureFn sp85)) (n : Nat) (hn : n <= 60) (h : Heap) : Cl X 85 [.int .i64 (n : Int)] h (.ret (.int .i64 (2 ^ n)) h none) :=
 Cl.intr hX (by
  have : (decide (0 <= (n : Int)) && decide ((n : Int) <= 60)) = true := by simp only [Bool.and_eq_true, decide_eq_true_eq]; omega
  simp only [pureFn, AV.purL, AV.pur, Bool.and_self, if_true, sp85, this, Int.toNat_natCast])
noncomputable def cZE : Itr
 | 84 => some (pureFn sp84)
 | 85 => some (pureFn sp85)
 | _ => none
theorem cZE_sound : Sound (dX cZE) := dX_sound (fun f g h => by
 unfold cZE at h
 split at h
 ·cases h; exact F84
 ·cases h; exact F85
 ·cases h)
theorem any_next {α : Type} {l : List α} {k : Nat} {p : α} {f : α -> Bool} (h : l[k]? = some p) : (l.take (k + 1)).any f = ((l.take k).any f || f p) := by rw [take_next h]; simp
theorem any_mem {α : Type} {l : List α} {k : Nat} {p : α} {f : α -> Bool} (h : l[k]? = some p) (hf : f p = true) : l.any f = true := List.any_eq_true.2 ⟨p, List.mem_of_getElem? h, hf⟩
set_option maxHeartbeats 4000000 in
theorem R24 : ∀ args v, sp82 args = some v -> ClR (dX cZE) 24 args emptyHp (isRet v) := by
 intro args v h
 unfold sp82 at h
 split at h
 ·rename_i x
  simp only [Option.map_eq_some_iff] at h
  obtain ⟨hs, hh, rfl⟩ := h
  obtain ⟨ra, fa, oa, ha, rfl, v1, v2, v3, v4⟩ := hsV_is hh
  obtain ⟨n, rs, fs, os, hds⟩ := hs
  simp only at v1 v2 v3 v4
  have l1 := sl_len v1
  have l2 := sl_len v2
  have l3 := sl_len v3
  have l4 := sl_len v4
  have o1 := sl_out v1
  have o2 := sl_out v2
  have o3 := sl_out v3
  have o4 := sl_out v4
  have m1 := sl_max v1
  have m2 := sl_max v2
  have m3 := sl_max v3
  have m4 := sl_max v4
  have H1 := J1 v1
  have H2 := J1 v2
  have H3 := J1 v3
  have H4 := J1 v4
  have hB : houseB ⟨n, rs, fs, os, hds⟩ = (inB n 1 4 && inB rs.length 1 3 && decide ((fs.length : Int) <= 4) && inB hds.length 1 4 && ((os.length : Int) == n) && !(rs.any fun r => !roomB r.lo r.hi r.mke r.wt r.stt) && !(fs.any fun f => !fanB rs.length f) && !(os.any fun x => !setB rs.length x) && !(hds.any fun x => !handB x.limit x.most)) := rfl
  have HB := J1 hB
  have hq4 : decide ((fs.length : Int) > 4) = !decide ((fs.length : Int) <= 4) := by
   rw [Bool.eq_iff_iff]; simp
  have hq5 : ((os.length : Int) != n) = !((os.length : Int) == n) := rfl
  clear hh v1 v2 v3 v4 hB
  by_cases hc1 : (inB n 1 4 && inB rs.length 1 3 && decide ((fs.length : Int) <= 4) && inB hds.length 1 4 && ((os.length : Int) == n)) = true
  ·have hrl : rs.length <= 3 := by
    simp only [Bool.and_eq_true] at hc1
    have := inB_is hc1.1.1.1.2
    omega
   have k85 := fun h => K85 (X := dX cZE) rfl rs.length (by omega) h
   have hpw := pow_le (k := rs.length) (by omega)
   have ws : IntKind.i64.wrap (2 ^ rs.length - 1) = w64 (w64 (2 ^ min rs.length 64) - 1) := by
    rw [show min rs.length 64 = rs.length by omega, w64_small (n := 2 ^ rs.length) (by omega) (by omega)]; rfl
   have ws2 : IntKind.i64.wrap ((rs.length : Int) - 1) = w64 ((rs.length : Int) - 1) := rfl
   have HC1 := J1 hc1
   simp only [Bool.and_eq_true] at hc1
   obtain ⟨⟨⟨⟨b1, b2⟩, b3⟩, b4⟩, b5⟩ := hc1
   clear hpw
   refine ClR.walk (c := _) rfl Tryz.func24 rfl (by kernel_rfl) rfl isRet_fail ?_
   simp only [entryEnv, Nat.reduceAdd]
   repeat' (first | refine goS ?_ | (apply U6; exact Z1; exact Z1; (exact K84 rfl _ _ _ _); simp only [pM, pN, rR, rP]) | (refine go2 ?_ ?_ <;> intro hh) | fail)
   clear b1 b2 b3 b4 b5 hq4 hq5
   refine W.loopH (rs.length) [1] [1] (fun k e lm => e.get 3 = some (.int .i64 ↑k) /\ ((rs.take k).any fun r => !roomB r.lo r.hi r.mke r.wt r.stt) = false) ?_ ?_
   ·refine ⟨?_, ?_⟩ <;> first | exact Z2 | rfl | assumption | (simp [go_sem, *]; done)
   intro k e lm hk0 hce hcl hinv
   simp only [keepE, and_true] at hce
   have c1 := hce
   clear hce
   simp only [go_sem, *, Nat.reduceBEq, Nat.reduceEqDiff, reduceIte] at c1
   simp only [keepL, and_true] at hcl
   have d1 := hcl
   clear hcl
   simp only [go_sem, *, Nat.reduceBEq, Nat.reduceEqDiff, reduceIte] at d1
   obtain ⟨h3, hok⟩ := hinv
   by_cases hlt : k < rs.length
   ·have hd0 : decide ((k : Int) < ((rs.length : Nat) : Int)) = true := by simpa using hlt
    have hv_0 := wrap_succ hlt m1
    obtain ⟨p, hp⟩ := get_some hlt
    have hix := fun H => rms_idx H1.out hp H
    have hnx := any_next (f := fun r => !roomB r.lo r.hi r.mke r.wt r.stt) hp
    have hmem := any_mem (f := fun r => !roomB r.lo r.hi r.mke r.wt r.stt) hp
    have hrb : roomB p.lo p.hi p.mke p.wt p.stt = (!decide (p.lo < 0) && !decide (p.lo > p.hi) && !decide (p.hi > 50) && inB p.mke 0 1000 && inB p.wt 0 4 && inB p.stt 0 50) := rfl
    have HOK := J1 hok
    have HNX := J1 hnx
    have HMEM := J1 hmem
    have HRB := J1 hrb
    have HLT0 := J1 hlt
    clear hok hnx hmem hrb hp hlt
    by_cases hz : roomB p.lo p.hi p.mke p.wt p.stt = true
    ·rw [HRB.out] at hz
     simp only [Bool.and_eq_true, Bool.not_eq_true'] at hz
     obtain ⟨⟨⟨⟨⟨z1, z2⟩, z3⟩, z4⟩, z5⟩, z6⟩ := hz
     repeat' (first | refine goS ?_ | (apply U6; exact Z1; exact Z1; (exact K84 rfl _ _ _ _); simp only [pM, pN, rR, rP]) | (refine go2 ?_ ?_ <;> intro hh) | fail)
     all_goals refine contH_mk J9 J7 J8 ?_
     all_goals refine ⟨?_, ?_⟩
     all_goals first | exact Z2 | skip
     rw [HNX.out, HOK.out, HRB.out, z1, z2, z3, z4, z5, z6]
     rfl
    ·have hz : roomB p.lo p.hi p.mke p.wt p.stt = false := by simpa using hz
     have hbad : houseB ⟨n, rs, fs, os, hds⟩ = false := by
      have : (rs.any fun r => !roomB r.lo r.hi r.mke r.wt r.stt) = true := HMEM.out (by rw [hz]; rfl)
      rw [HB.out, this]; simp
     rw [hbad]
     clear hbad
     rw [HRB.out] at hz
     have hcase : (decide (p.lo < 0) = true) \/ (decide (p.lo < 0) = false /\ decide (p.lo > p.hi) = true) \/ (decide (p.lo < 0) = false /\ decide (p.lo > p.hi) = false /\ decide (p.hi > 50) = true) \/ (decide (p.lo < 0) = false /\ decide (p.lo > p.hi) = false /\ decide (p.hi > 50) = false /\ inB p.mke 0 1000 = false) \/ (decide (p.lo < 0) = false /\ decide (p.lo > p.hi) = false /\ decide (p.hi > 50) = false /\ inB p.mke 0 1000 = true /\ inB p.wt 0 4 = false) \/
       (decide (p.lo < 0) = false /\ decide (p.lo > p.hi) = false /\ decide (p.hi > 50) = false /\ inB p.mke 0 1000 = true /\ inB p.wt 0 4 = true /\ inB p.stt 0 50 = false) := by
      revert hz
      cases decide (p.lo < 0) <;> cases decide (p.lo > p.hi) <;> cases decide (p.hi > 50) <;> cases inB p.mke 0 1000 <;> cases inB p.wt 0 4 <;> cases inB p.stt 0 50 <;> simp
     clear hz
     rcases hcase with z1 | ⟨z1, z2⟩ | ⟨z1, z2, z3⟩ | ⟨z1, z2, z3, z4⟩ | ⟨z1, z2, z3, z4, z5⟩ | ⟨z1, z2, z3, z4, z5, z6⟩
     all_goals (
      repeat' (first | refine goS ?_ | (apply U6; exact Z1; exact Z1; (exact K84 rfl _ _ _ _); simp only [pM, pN, rR, rP]) | (refine go2 ?_ ?_ <;> intro hh) | fail)
      all_goals (simp only [resV_def (X := dX cZE) Tryz.func24, Tryz.results24]; first | exact J5 | refine J6 ?_))
   ·have hd0 : decide ((k : Int) < ((rs.length : Nat) : Int)) = false := by simpa using hlt
    obtain rfl : k = rs.length := by omega
    rw [List.take_length] at hok
    have HOK1 := J1 hok
    clear hok
    repeat' (first | refine goS ?_ | (refine go2 ?_ ?_ <;> intro hh) | fail)
    refine W.loopH (fs.length) [1] [1] (fun j e1 lm1 => e1.get 5 = some (.int .i64 ↑j) /\ ((fs.take j).any fun f => !fanB rs.length f) = false) ?_ ?_
    ·refine ⟨?_, ?_⟩ <;> first | exact Z2 | rfl | assumption | (simp [go_sem, *]; done)
    intro j e1 lm1 hk1 hce hcl hinv
    simp only [keepE, and_true] at hce
    have c1 := hce
    clear hce
    simp only [go_sem, *, Nat.reduceBEq, Nat.reduceEqDiff, reduceIte] at c1
    simp only [keepL, and_true] at hcl
    have d1 := hcl
    clear hcl
    simp only [go_sem, *, Nat.reduceBEq, Nat.reduceEqDiff, reduceIte] at d1
    obtain ⟨h5, hok⟩ := hinv
    by_cases hjt : j < fs.length
    ·have hd1 : decide ((j : Int) < ((fs.length : Nat) : Int)) = true := by simpa using hjt
     have hv_1 := wrap_succ hjt m2
     obtain ⟨p, hp⟩ := get_some hjt
     have hix := fun H => fas_idx H2.out hp H
     have hnx := any_next (f := fun f => !fanB rs.length f) hp
     have hmem := any_mem (f := fun f => !fanB rs.length f) hp
     have hrb : fanB rs.length p = (inB p.room 0 (w64 ((rs.length : Int) - 1)) && inB p.draws 0 50) := rfl
     have HOK := J1 hok
     have HNX := J1 hnx
     have HMEM := J1 hmem
     have HRB := J1 hrb
     have HLT1 := J1 hjt
     clear hok hnx hmem hrb hp hjt
     by_cases hz : (inB p.room 0 (w64 ((rs.length : Int) - 1)) && inB p.draws 0 50) = true
     ·simp only [Bool.and_eq_true] at hz
      obtain ⟨z1, z2⟩ := hz
      repeat' (first | (apply W.drawQ (id := 12) (l1 := [0, 1, 2, 3, 4, 5, 6, 7, 8, 9, 10, 11, 12, 13, 14, 15, 16, 17, 18, 19, 20, 21]) (l2 := []); kernel_rfl; kernel_rfl; kernel_rfl; exact Z4) | (apply W.drawQ (id := 17) (l1 := [0, 1, 2, 3, 4, 5, 6, 7, 8, 9, 10, 11]) (l2 := []); kernel_rfl; kernel_rfl; kernel_rfl; exact Z4) | refine go1 ?_ | (apply U6; exact Z1; exact Z1; (exact K84 rfl _ _ _ _); simp only [pM, pN, rR, rP]) | (refine go2 ?_ ?_ <;> intro hh) | fail)
      all_goals refine contH_mk (by first | assumption | exact HLT1.out) J7 J8 ?_
      all_goals refine ⟨?_, ?_⟩
      all_goals first | exact Z2 | skip
      rw [HNX.out, HOK.out, HRB.out, z1, z2]
      rfl
     ·have hbad : houseB ⟨n, rs, fs, os, hds⟩ = false := by
       have : (fs.any fun f => !fanB rs.length f) = true := HMEM.out (by
        rw [HRB.out]; revert hz; cases (inB p.room 0 (w64 ((rs.length : Int) - 1)) && inB p.draws 0 50) <;> simp)
       rw [HB.out, this]; simp
      rw [hbad]
      have hcase : (inB p.room 0 (w64 ((rs.length : Int) - 1)) = false) \/ (inB p.room 0 (w64 ((rs.length : Int) - 1)) = true /\ inB p.draws 0 50 = false) := by
       revert hz; cases inB p.room 0 (w64 ((rs.length : Int) - 1)) <;> cases inB p.draws 0 50 <;> simp
      clear hz hbad
      rcases hcase with z1 | ⟨z1, z2⟩
      all_goals (
       repeat' (first | (apply W.drawQ (id := 12) (l1 := [0, 1, 2, 3, 4, 5, 6, 7, 8, 9, 10, 11, 12, 13, 14, 15, 16, 17, 18, 19, 20, 21]) (l2 := []); kernel_rfl; kernel_rfl; kernel_rfl; exact Z4) | (apply W.drawQ (id := 17) (l1 := [0, 1, 2, 3, 4, 5, 6, 7, 8, 9, 10, 11]) (l2 := []); kernel_rfl; kernel_rfl; kernel_rfl; exact Z4) | refine go1 ?_ | (apply U6; exact Z1; exact Z1; (exact K84 rfl _ _ _ _); simp only [pM, pN, rR, rP]) | (refine go2 ?_ ?_ <;> intro hh) | fail)
       all_goals (simp only [resV_def (X := dX cZE) Tryz.func24, Tryz.results24]; first | exact J5 | refine J6 ?_))
    ·have hd1 : decide ((j : Int) < ((fs.length : Nat) : Int)) = false := by simpa using hjt
     obtain rfl : j = fs.length := by omega
     rw [List.take_length] at hok
     have HOK2 := J1 hok
     clear hok
     repeat' (first | refine goS ?_ | (refine go2 ?_ ?_ <;> intro hh) | fail)
     refine W.loopH (os.length) [1] [1] (fun i e2 lm2 => e2.get 6 = some (.int .i64 ↑i) /\ ((os.take i).any fun x => !setB rs.length x) = false) ?_ ?_
     ·refine ⟨?_, ?_⟩ <;> first | exact Z2 | rfl | assumption | (simp [go_sem, *]; done)
     intro i e2 lm2 hk2 hce hcl hinv
     simp only [keepE, and_true] at hce
     have c1 := hce
     clear hce
     simp only [go_sem, *, Nat.reduceBEq, Nat.reduceEqDiff, reduceIte] at c1
     simp only [keepL, and_true] at hcl
     have d1 := hcl
     clear hcl
     simp only [go_sem, *, Nat.reduceBEq, Nat.reduceEqDiff, reduceIte] at d1
     obtain ⟨h6, hok⟩ := hinv
     by_cases hit : i < os.length
     ·have hd2 : decide ((i : Int) < ((os.length : Nat) : Int)) = true := by simpa using hit
      have hv_2 := wrap_succ hit m3
      obtain ⟨p, hp⟩ := get_some hit
      have hix := fun H => ints_idx H3.out hp H
      have hnx := any_next (f := fun x => !setB rs.length x) hp
      have hmem := any_mem (f := fun x => !setB rs.length x) hp
      have hrb : setB rs.length p = inB p 0 (w64 (w64 (2 ^ min rs.length 64) - 1)) := rfl
      have HOK := J1 hok
      have HNX := J1 hnx
      have HMEM := J1 hmem
      have HRB := J1 hrb
      have HLT2 := J1 hit
      clear hok hnx hmem hrb hp hit
      by_cases hz : inB p 0 (w64 (w64 (2 ^ min rs.length 64) - 1)) = true
      ·repeat' (first | (apply W.drawQ (id := 12) (l1 := [0, 1, 2, 3, 4, 5, 6, 7, 8, 9, 10, 11, 12, 13, 14, 15, 16, 17, 18, 19, 20, 21]) (l2 := []); kernel_rfl; kernel_rfl; kernel_rfl; exact Z4) | (apply W.drawQ (id := 17) (l1 := [0, 1, 2, 3, 4, 5, 6, 7, 8, 9, 10, 11]) (l2 := []); kernel_rfl; kernel_rfl; kernel_rfl; exact Z4) | refine go1 ?_ | (apply U6; exact Z1; exact Z1; (focus (first | exact K84 rfl _ _ _ _ | exact k85 _)); simp only [pM, pN, rR, rP]) | (refine go2 ?_ ?_ <;> intro hh) | fail)
       all_goals refine contH_mk (by first | assumption | exact HLT2.out) J7 J8 ?_
       all_goals refine ⟨?_, ?_⟩
       all_goals first | exact Z2 | skip
       rw [HNX.out, HOK.out, HRB.out, hz]
       rfl
      ·have hz : inB p 0 (w64 (w64 (2 ^ min rs.length 64) - 1)) = false := by simpa using hz
       have hbad : houseB ⟨n, rs, fs, os, hds⟩ = false := by
        have : (os.any fun x => !setB rs.length x) = true := HMEM.out (by rw [HRB.out, hz]; rfl)
        rw [HB.out, this]; simp
       rw [hbad]
       clear hbad
       repeat' (first | (apply W.drawQ (id := 12) (l1 := [0, 1, 2, 3, 4, 5, 6, 7, 8, 9, 10, 11, 12, 13, 14, 15, 16, 17, 18, 19, 20, 21]) (l2 := []); kernel_rfl; kernel_rfl; kernel_rfl; exact Z4) | (apply W.drawQ (id := 17) (l1 := [0, 1, 2, 3, 4, 5, 6, 7, 8, 9, 10, 11]) (l2 := []); kernel_rfl; kernel_rfl; kernel_rfl; exact Z4) | refine go1 ?_ | (apply U6; exact Z1; exact Z1; (focus (first | exact K84 rfl _ _ _ _ | exact k85 _)); simp only [pM, pN, rR, rP]) | (refine go2 ?_ ?_ <;> intro hh) | fail)
       all_goals (simp only [resV_def (X := dX cZE) Tryz.func24, Tryz.results24]; first | exact J5 | refine J6 ?_)
     ·have hd2 : decide ((i : Int) < ((os.length : Nat) : Int)) = false := by simpa using hit
      obtain rfl : i = os.length := by omega
      rw [List.take_length] at hok
      have HOK3 := J1 hok
      clear hok
      repeat' (first | refine goS ?_ | (refine go2 ?_ ?_ <;> intro hh) | fail)
      refine W.loopH (hds.length) [1] [1] (fun m e3 lm3 => e3.get 7 = some (.int .i64 ↑m) /\ ((hds.take m).any fun x => !handB x.limit x.most) = false) ?_ ?_
      ·refine ⟨?_, ?_⟩ <;> first | exact Z2 | rfl | assumption | (simp [go_sem, *]; done)
      intro m e3 lm3 hk3 hce hcl hinv
      simp only [keepE, and_true] at hce
      have c1 := hce
      clear hce
      simp only [go_sem, *, Nat.reduceBEq, Nat.reduceEqDiff, reduceIte] at c1
      simp only [keepL, and_true] at hcl
      have d1 := hcl
      clear hcl
      simp only [go_sem, *, Nat.reduceBEq, Nat.reduceEqDiff, reduceIte] at d1
      obtain ⟨h7, hok⟩ := hinv
      by_cases hmt : m < hds.length
      ·have hd3 : decide ((m : Int) < ((hds.length : Nat) : Int)) = true := by simpa using hmt
       have hv_3 := wrap_succ hmt m4
       obtain ⟨p, hp⟩ := get_some hmt
       have hix := fun H => has_idx H4.out hp H
       have hnx := any_next (f := fun x => !handB x.limit x.most) hp
       have hmem := any_mem (f := fun x => !handB x.limit x.most) hp
       have hrb : handB p.limit p.most = (inB p.limit 0 2000 && inB p.most 0 4) := rfl
       have HOK := J1 hok
       have HNX := J1 hnx
       have HMEM := J1 hmem
       have HRB := J1 hrb
       have HLT3 := J1 hmt
       clear hok hnx hmem hrb hp hmt
       by_cases hz : (inB p.limit 0 2000 && inB p.most 0 4) = true
       ·simp only [Bool.and_eq_true] at hz
        obtain ⟨z1, z2⟩ := hz
        repeat' (first | refine goS ?_ | (apply U6; exact Z1; exact Z1; (exact K84 rfl _ _ _ _); simp only [pM, pN, rR, rP]) | (refine go2 ?_ ?_ <;> intro hh) | fail)
        all_goals refine contH_mk (by first | assumption | exact HLT3.out) J7 J8 ?_
        all_goals refine ⟨?_, ?_⟩
        all_goals first | exact Z2 | skip
        rw [HNX.out, HOK.out, HRB.out, z1, z2]
        rfl
       ·have hbad : houseB ⟨n, rs, fs, os, hds⟩ = false := by
         have : (hds.any fun x => !handB x.limit x.most) = true := HMEM.out (by
          rw [HRB.out]; revert hz; cases (inB p.limit 0 2000 && inB p.most 0 4) <;> simp)
         rw [HB.out, this]; simp
        rw [hbad]
        have hcase : (inB p.limit 0 2000 = false) \/ (inB p.limit 0 2000 = true /\ inB p.most 0 4 = false) := by
         revert hz; cases inB p.limit 0 2000 <;> cases inB p.most 0 4 <;> simp
        clear hz hbad
        rcases hcase with z1 | ⟨z1, z2⟩
        all_goals (
         repeat' (first | refine goS ?_ | (apply U6; exact Z1; exact Z1; (exact K84 rfl _ _ _ _); simp only [pM, pN, rR, rP]) | (refine go2 ?_ ?_ <;> intro hh) | fail)
         all_goals (simp only [resV_def (X := dX cZE) Tryz.func24, Tryz.results24]; first | exact J5 | refine J6 ?_))
      ·have hd3 : decide ((m : Int) < ((hds.length : Nat) : Int)) = false := by simpa using hmt
       obtain rfl : m = hds.length := by omega
       rw [List.take_length] at hok
       have hgood : houseB ⟨n, rs, fs, os, hds⟩ = true := by
        have h1 := HC1.out
        rw [HB.out, h1, HOK1.out, HOK2.out, HOK3.out, hok]
        rfl
       rw [hgood]
       clear hok hgood
       repeat' (first | refine goS ?_ | (refine go2 ?_ ?_ <;> intro hh) | fail)
       all_goals (simp only [resV_def (X := dX cZE) Tryz.func24, Tryz.results24]; first | exact J5 | refine J6 ?_)
  ·have hbad : houseB ⟨n, rs, fs, os, hds⟩ = false := by
    have : (inB n 1 4 && inB rs.length 1 3 && decide ((fs.length : Int) <= 4) && inB hds.length 1 4 && ((os.length : Int) == n)) = false := by simpa using hc1
    rw [HB.out, this]; simp
   rw [hbad]
   have HC1 := J1 hc1
   clear hc1 hbad
   have hcase : (inB n 1 4 = false) \/ (inB n 1 4 = true /\ inB rs.length 1 3 = false) \/ (inB n 1 4 = true /\ inB rs.length 1 3 = true /\ decide ((fs.length : Int) <= 4) = false) \/ (inB n 1 4 = true /\ inB rs.length 1 3 = true /\ decide ((fs.length : Int) <= 4) = true /\ inB hds.length 1 4 = false) \/ (inB n 1 4 = true /\ inB rs.length 1 3 = true /\ decide ((fs.length : Int) <= 4) = true /\ inB hds.length 1 4 = true /\ ((os.length : Int) == n) = false) := by
    have := HC1.out
    revert this; cases inB n 1 4 <;> cases inB rs.length 1 3 <;> cases decide ((fs.length : Int) <= 4) <;> cases inB hds.length 1 4 <;> cases ((os.length : Int) == n) <;> simp
   clear HC1
   rcases hcase with z1 | ⟨z1, z2⟩ | ⟨z1, z2, z3⟩ | ⟨z1, z2, z3, z4⟩ | ⟨z1, z2, z3, z4, z5⟩
   all_goals (
    refine ClR.walk (c := _) rfl Tryz.func24 rfl (by kernel_rfl) rfl isRet_fail ?_
    simp only [entryEnv, Nat.reduceAdd]
    repeat' (first | refine goS ?_ | (apply U6; exact Z1; exact Z1; (exact K84 rfl _ _ _ _); simp only [pM, pN, rR, rP]) | (refine go2 ?_ ?_ <;> intro hh) | fail)
    all_goals (simp only [resV_def (X := dX cZE) Tryz.func24, Tryz.results24]; first | exact J5 | refine J6 ?_))
 ·cases h
theorem F24D : IntrFn Tryz.prog 24 (flatFnD sp82) := flatD_fn (X := dX cZE) cZE_sound p82 R24
theorem K24 {X : Ctx} (hX : X.intr 24 = some (flatFnD sp82)) {ra fa oa ha : AV} {m : Hs} {h : Heap} (h1 : SeeV h rmC ra m.rooms) (h2 : SeeV h faC fa m.fans) (h3 : SeeV h intC oa m.op) (h4 : SeeV h haC ha m.hands) :
  Cl X 24 [.agg [.int .i64 m.hours, ra, fa, oa, ha]] h (.ret (.bool (houseB m)) h none) := by
 obtain ⟨ra', v1, s1⟩ := h1
 obtain ⟨fa', v2, s2⟩ := h2
 obtain ⟨oa', v3, s3⟩ := h3
 obtain ⟨ha', v4, s4⟩ := h4
 exact Cl.intr hX (by simp only [flatFnD, viewDs, viewD_hs v1 v2 v3 v4, sp82, hsV, s1, s2, s3, s4, Option.map_some])
end Go.AM
namespace Go.AM
open Go Go.Proofs
variable [Keep]
attribute [local irreducible] W WO WO1 WD WQ WT thenQ blockQ endR isRet retK Cl ClR
open Go.TX (Rm Fa Ha Hs numP smallP isDig valD val_app dig_bds mapO mapO_next mapO_none mapO_len spL_app spL_end dig_small dig_step digF_len lineW)
structure Spt (c : UInt8) (s : List UInt8) (i f : Nat) (done : List (List UInt8)) : Prop where
 le : f <= i /\ i <= s.length
 no : ∀ x ∈ (s.take i).drop f, x ≠ c
 is : spL c s = done ++ spL c (s.drop f)
theorem Spt.start (c : UInt8) (s : List UInt8) : Spt c s 0 0 [] := ⟨⟨Nat.le_refl _, Nat.zero_le _⟩, by simp, by simp⟩
theorem Spt.go {c : UInt8} {s : List UInt8} {i f : Nat} {done : List (List UInt8)} (h : Spt c s i f done) {b : UInt8} (hb : s[i]? = some b) (hc : b ≠ c) : Spt c s (i + 1) f done := by
 have hi : i < s.length := (List.getElem?_eq_some_iff.1 hb).1
 refine ⟨⟨by have := h.le; omega, by omega⟩, fun x hx => ?_, h.is⟩
 rw [take_next hb, List.drop_append_of_le_length (by rw [List.length_take]; have := h.le; omega)] at hx
 rcases List.mem_append.1 hx with hx | hx
 ·exact h.no x hx
 ·rcases List.mem_singleton.1 hx with rfl
  exact hc
theorem Spt.cut {c : UInt8} {s : List UInt8} {i f : Nat} {done : List (List UInt8)} (h : Spt c s i f done) (hb : s[i]? = some c) : Spt c s (i + 1) (i + 1) (done ++ [(s.take i).drop f]) := by
 have hi : i < s.length := (List.getElem?_eq_some_iff.1 hb).1
 have hle := h.le
 refine ⟨⟨Nat.le_refl _, by omega⟩, fun x hx => ?_, ?_⟩
 ·rw [List.drop_of_length_le (by rw [List.length_take]; omega)] at hx
  cases hx
 ·have e : s.drop f = (s.take i).drop f ++ c :: s.drop (i + 1) := by
   have e1 : s = s.take i ++ c :: s.drop (i + 1) := by
    have := List.getElem?_eq_some_iff.1 hb
    obtain ⟨h1, h2⟩ := this
    rw [<- h2, <- List.drop_eq_getElem_cons h1, List.take_append_drop]
   have e2 : s.drop f = (s.take i ++ c :: s.drop (i + 1)).drop f := by rw [<- e1]
   rw [e2, List.drop_append_of_le_length (by rw [List.length_take]; omega)]
  rw [h.is, e, spL_app _ h.no, List.append_assoc]
  rfl
theorem Spt.fin {c : UInt8} {s : List UInt8} {i f : Nat} {done : List (List UInt8)} (h : Spt c s i f done) (hi : i = s.length) : spL c s = done ++ [s.drop f] := by
 subst hi
 have := h.no
 rw [List.take_length] at this
 rw [h.is, spL_end this]
def numI (w : List UInt8) : Int := match numP w with | some n => n | none => -1
attribute [local irreducible] numP
attribute [local irreducible] numI
end Go.AM
namespace Go.AM
open Go Go.Proofs
variable [Keep]
attribute [local irreducible] W WO WO1 WD WQ WT thenQ blockQ endR isRet retK Cl ClR
open Go.TX (Rm Fa Ha Hs)
def sp34 : List AV -> Option AV
 | [a, b] => match slV intC a, slV intC b with
  | some l, some r => some (.bool (decide (l = r)))
  | _, _ => none
 | _ => none
theorem p34 : ∀ args v, sp34 args = some v -> v.flat = true := by
 intro args v h
 unfold sp34 at h
 split at h
 ·split at h
  ·cases h; rfl
  ·cases h
 ·cases h
set_option maxHeartbeats 1000000 in
theorem R34 : ∀ args v, sp34 args = some v -> ClR (dX i0) 34 args emptyHp (isRet v) := by
 intro args v h
 unfold sp34 at h
 split at h
 ·rename_i a b
  split at h
  ·rename_i l r hl hr
   have h := Option.some.inj h
   subst h
   have l1 := sl_len hl
   have o1 := sl_out hl
   have m1 := sl_max hl
   have l2 := sl_len hr
   have o2 := sl_out hr
   have HL := J1 hl
   have HR := J1 hr
   clear hl hr
   by_cases hlen : l.length = r.length
   ·have hq : ((l.length : Int) != (r.length : Int)) = false := by simp; omega
    have HLEN := J1 hlen
    clear hlen
    refine ClR.walk (c := _) rfl Tryz.func34 rfl (by kernel_rfl) rfl isRet_fail ?_
    simp only [entryEnv, Nat.reduceAdd]
    repeat' (first | refine goS ?_ | (refine go2 ?_ ?_ <;> intro hh) | fail)
    clear hq
    refine W.loopH (l.length) [0, 1] [] (fun k e lm => e.get 5 = some (.int .i64 ↑k) /\ l.take k = r.take k) ?_ ?_
    ·refine ⟨?_, ?_⟩ <;> first | exact Z2 | rfl | assumption | (simp [go_sem, *]; done)
    intro k e lm hk0 hce hcl hinv
    simp only [keepE, and_true] at hce
    obtain ⟨c0, c1⟩ := hce
    simp only [go_sem, *, Nat.reduceBEq, Nat.reduceEqDiff, reduceIte] at c0 c1
    clear hcl
    obtain ⟨h5, heq⟩ := hinv
    by_cases hlt : k < l.length
    ·have hd0 : decide ((k : Int) < ((l.length : Nat) : Int)) = true := by simpa using hlt
     have hv_0 := wrap_succ hlt m1
     obtain ⟨p, hp⟩ := get_some hlt
     obtain ⟨q, hq⟩ := get_some (l := r) (k := k) (by have := HLEN.out; omega)
     have hix := fun H => ints_idx HL.out hp H
     have hix2 := fun H => ints_idx HR.out hq H
     have HEQ := J1 heq
     have HP := J1 hp
     have HQ := J1 hq
     have HLT0 := J1 hlt
     clear heq hp hq hlt
     by_cases hpq : p = q
     ·have hn : (p != q) = false := by simp [hpq]
      have HPQ := J1 hpq
      clear hpq
      repeat' (first | (apply W.drawQ (id := 6) (l1 := [0, 1, 2, 3, 4, 5, 6, 7, 8]) (l2 := []); kernel_rfl; kernel_rfl; kernel_rfl; exact Z4) | refine go1 ?_ | (refine go2 ?_ ?_ <;> intro hh) | fail)
      all_goals refine contH_mk J9 J7 J8 ?_
      all_goals refine ⟨?_, ?_⟩
      all_goals first | exact Z2 | skip
      rw [take_next HP.out, take_next HQ.out, HEQ.out, HPQ.out]
     ·have hn : (p != q) = true := by simp [hpq]
      have hne : decide (l = r) = false := by
       simp only [decide_eq_false_iff_not]
       intro e
       have h1 := HP.out
       rw [e, HQ.out] at h1
       exact hpq (Option.some.inj h1).symm
      rw [hne]
      clear hpq hne
      repeat' (first | (apply W.drawQ (id := 6) (l1 := [0, 1, 2, 3, 4, 5, 6, 7, 8]) (l2 := []); kernel_rfl; kernel_rfl; kernel_rfl; exact Z4) | refine go1 ?_ | (refine go2 ?_ ?_ <;> intro hh) | fail)
      all_goals (simp only [resV_def (X := dX i0) Tryz.func34, Tryz.results34]; first | exact J5 | refine J6 ?_)
    ·have hd0 : decide ((k : Int) < ((l.length : Nat) : Int)) = false := by simpa using hlt
     obtain rfl : k = l.length := by omega
     have hey : decide (l = r) = true := by
      rw [List.take_length] at heq
      have h2 : r.take l.length = r := by rw [HLEN.out, List.take_length]
      rw [h2] at heq
      simpa using heq
     rw [hey]
     clear heq hey
     repeat' (first | refine goS ?_ | (refine go2 ?_ ?_ <;> intro hh) | fail)
     all_goals (simp only [resV_def (X := dX i0) Tryz.func34, Tryz.results34]; first | exact J5 | refine J6 ?_)
   ·have hq : ((l.length : Int) != (r.length : Int)) = true := by simp; omega
    have hne : decide (l = r) = false := by
     simp only [decide_eq_false_iff_not]
     intro e
     exact hlen (by rw [e])
    rw [hne]
    clear hlen hne
    refine ClR.walk (c := _) rfl Tryz.func34 rfl (by kernel_rfl) rfl isRet_fail ?_
    simp only [entryEnv, Nat.reduceAdd]
    repeat' (first | refine goS ?_ | (refine go2 ?_ ?_ <;> intro hh) | fail)
    all_goals (simp only [resV_def (X := dX i0) Tryz.func34, Tryz.results34]; first | exact J5 | refine J6 ?_)
  ·cases h
 ·cases h
theorem F34 : IntrFn Tryz.prog 34 (flatFnD sp34) := flatD_fn (X := dX i0) i0_sound p34 R34
open Classical in
def shortB (m : Hs) : Bool := decide ((m.rooms.length : Int) <= 5) && decide ((m.fans.length : Int) <= 7) && decide ((m.op.length : Int) <= 6) && decide ((m.hands.length : Int) <= 6)
end Go.AM
