/-
  A part of the proof: contracts of functions.
-/
import Derived.Test.YtkpbdjpekjdhcaaGreatDoorSAG
set_option linter.unusedSectionVars false
set_option linter.unusedVariables false
set_option linter.unusedSimpArgs false
set_option maxRecDepth 100000
namespace Go.AM
open Go Go.Proofs
variable [Keep]
attribute [local irreducible] W WO WO1 WD WQ WT thenQ blockQ endR isRet retK Cl ClR
open Go.TX (Rm Fa Ha Hs)
def sp85 : List AV → Option AV
  | [.int .i64 n] => if (decide (0 ≤ n) && decide (n ≤ 60)) = true then some (.int .i64 (2 ^ n.toNat)) else none
  | _ => none
theorem p85 : ∀ args v, sp85 args = some v → v.pur = true := by
  intro args v h
  unfold sp85 at h
  split at h
  · split at h <;> cases h; rfl
  · cases h
theorem pow_le {k : Nat} (h : k ≤ 60) : (0 : Int) < 2 ^ k ∧ (2 : Int) ^ k ≤ 1152921504606846976 := by
  have h1 : (2 : Nat) ^ k ≤ 2 ^ 60 := Nat.pow_le_pow_right (by decide) h
  have h2 : 0 < (2 : Nat) ^ k := Nat.pow_pos (by decide)
  have h3 : ((2 : Nat) ^ 60 : Nat) = 1152921504606846976 := by decide
  have h4 : (2 : Int) ^ k = ((2 ^ k : Nat) : Int) := by simp
  omega
theorem F85 : IntrFn Tryz.prog 85 (pureFn sp85) := by
  refine pure_fn (X := dX i0) i0_sound p85 ?_
  intro args v h
  unfold sp85 at h
  split at h
  · rename_i n
    split at h
    · rename_i hg
      cases h
      simp only [Bool.and_eq_true, decide_eq_true_eq] at hg
      obtain ⟨n, rfl⟩ : ∃ m : Nat, n = m := ⟨n.toNat, by omega⟩
      have hn : n ≤ 60 := by omega
      rw [Int.toNat_natCast]
      clear hg
      refine ClR.walk (c := _) rfl Tryz.func85 rfl (by kernel_rfl) rfl isRet_fail ?_
      simp only [entryEnv, Nat.reduceAdd]
      repeat' (first | refine goS ?_ | refine go2 (fun hh => ?_) (fun hh => ?_) | fail)
      refine W.loopH (n) [0] [] (fun k e lm => e.get 4 = some (.int .i64 ↑k) ∧ e.get 3 = some (.int .i64 (2 ^ k))) ?_ ?_
      · refine ⟨?_, ?_⟩ <;> first | exact Z2 | rfl | assumption | (simp [go_sem, *]; done)
      intro k e lm hk0 hce hcl hinv
      simp only [keepE, and_true] at hce
      have c0 := hce
      clear hce
      simp only [go_sem, *, Nat.reduceLT, Int.reduceEq, Int.reduceBEq, Int.reduceLE, Int.reduceLT, Nat.reduceAdd, Nat.reduceBEq, Nat.reduceEqDiff, reduceIte, Nat.reduceLeDiff, Nat.reduceMul, Nat.reduceSub, reduceCtorEq] at c0
      clear hcl
      obtain ⟨h4, h3⟩ := hinv
      by_cases hlt : k < n
      · have hd0 : decide ((k : Int) < ((n : Nat) : Int)) = true := by simpa using hlt
        have hv_0 := wrap_succ hlt (by unfold maxL; omega)
        have hp := pow_le (k := k + 1) (by omega)
        have e1 : (2 : Int) ^ (k + 1) = 2 * 2 ^ k := by rw [Int.pow_succ, Int.mul_comm]
        have hm : IntKind.i64.wrap (2 * 2 ^ k) = 2 ^ (k + 1) := by rw [← e1]; exact wrap_small (by omega) (by omega)
        clear hp e1
        repeat' (first | refine goS ?_ | refine go2 (fun hh => ?_) (fun hh => ?_) | fail)
        all_goals refine contH_mk (by first | assumption | exact HLT0.out) (by simp only [keepE, and_true, and_self, go_sem, *, Nat.reduceLT, Int.reduceEq, Int.reduceBEq, Int.reduceLE, Int.reduceLT, Nat.reduceAdd, Nat.reduceBEq, Nat.reduceEqDiff, reduceIte, Nat.reduceLeDiff, Nat.reduceMul, Nat.reduceSub, reduceCtorEq]) (by simp only [keepL, and_true, and_self, go_sem, *, Nat.reduceLT, Int.reduceEq, Int.reduceBEq, Int.reduceLE, Int.reduceLT, Nat.reduceAdd, Nat.reduceBEq, Nat.reduceEqDiff, reduceIte, Nat.reduceLeDiff, Nat.reduceMul, Nat.reduceSub, reduceCtorEq]) ?_
        all_goals refine ⟨?_, ?_⟩
        all_goals first | exact Z2 | skip
      · have hd0 : decide ((k : Int) < ((n : Nat) : Int)) = false := by simpa using hlt
        obtain rfl : k = n := by omega
        repeat' (first | refine goS ?_ | refine go2 (fun hh => ?_) (fun hh => ?_) | fail)
        all_goals simp only [resV_def (X := dX i0) Tryz.func85, Tryz.results85, resultsV, resultV, go_sem, *, Nat.reduceLT, Int.reduceEq, Int.reduceBEq, Int.reduceLE, Int.reduceLT, Nat.reduceAdd, Nat.reduceBEq, Nat.reduceEqDiff, reduceIte, Nat.reduceLeDiff, Nat.reduceMul, Nat.reduceSub, reduceCtorEq, frzRes, dFrz, frzCells, isRet_ret, tupleOf]
        all_goals rfl
    · cases h
  · cases h
theorem K85 {X : Ctx} (hX : X.intr 85 = some (pureFn sp85)) (n : Nat) (hn : n ≤ 60) (h : Heap) : Cl X 85 [.int .i64 (n : Int)] h (.ret (.int .i64 (2 ^ n)) h none) :=
  Cl.intr hX (by
    have : (decide (0 ≤ (n : Int)) && decide ((n : Int) ≤ 60)) = true := by simp only [Bool.and_eq_true, decide_eq_true_eq]; omega
    simp only [pureFn, AV.purL, AV.pur, Bool.and_self, if_true, sp85, this, Int.toNat_natCast])
noncomputable def cZE : FuncId → Option (List AV → Heap → Option (AV × Heap))
  | 84 => some (pureFn sp84)
  | 85 => some (pureFn sp85)
  | _ => none
theorem cZE_sound : Sound (dX cZE) := dX_sound (fun f g h => by
  unfold cZE at h
  split at h
  · cases h; exact F84
  · cases h; exact F85
  · cases h)
theorem any_next {α : Type} {l : List α} {k : Nat} {p : α} {f : α → Bool} (h : l[k]? = some p) : (l.take (k + 1)).any f = ((l.take k).any f || f p) := by rw [take_next h]; simp
theorem any_mem {α : Type} {l : List α} {k : Nat} {p : α} {f : α → Bool} (h : l[k]? = some p) (hf : f p = true) : l.any f = true := List.any_eq_true.2 ⟨p, List.mem_of_getElem? h, hf⟩
set_option maxHeartbeats 4000000 in
theorem R24 : ∀ args v, sp82 args = some v → ClR (dX cZE) 24 args emptyHp (isRet v) := by
  intro args v h
  unfold sp82 at h
  split at h
  · rename_i x
    simp only [Option.map_eq_some_iff] at h
    obtain ⟨hs, hh, rfl⟩ := h
    obtain ⟨ra, fa, oa, ha, rfl, v1, v2, v3, v4⟩ := hsV_is hh
    obtain ⟨n, rs, fs, os, hds⟩ := hs
    simp only at v1 v2 v3 v4
    have l1 := sl_len v1
    have l2 := sl_len v2
    have l3 := sl_len v3
    have l4 := sl_len v4
    have o1 := sl_out v1
    have o2 := sl_out v2
    have o3 := sl_out v3
    have o4 := sl_out v4
    have m1 := sl_max v1
    have m2 := sl_max v2
    have m3 := sl_max v3
    have m4 := sl_max v4
    have H1 := Lib.hid v1
    have H2 := Lib.hid v2
    have H3 := Lib.hid v3
    have H4 := Lib.hid v4
    have hB : houseB ⟨n, rs, fs, os, hds⟩ = (inB n 1 4 && inB rs.length 1 3 && decide ((fs.length : Int) ≤ 4) && inB hds.length 1 4 && ((os.length : Int) == n) && !(rs.any fun r => !roomB r.lo r.hi r.mke r.wt r.stt) && !(fs.any fun f => !fanB rs.length f) && !(os.any fun x => !setB rs.length x) && !(hds.any fun x => !handB x.limit x.most)) := rfl
    have HB := Lib.hid hB
    have hq4 : decide ((fs.length : Int) > 4) = !decide ((fs.length : Int) ≤ 4) := by
      rw [Bool.eq_iff_iff]; simp
    have hq5 : ((os.length : Int) != n) = !((os.length : Int) == n) := rfl
    clear hh v1 v2 v3 v4 hB
    by_cases hc1 : (inB n 1 4 && inB rs.length 1 3 && decide ((fs.length : Int) ≤ 4) && inB hds.length 1 4 && ((os.length : Int) == n)) = true
    · have hrl : rs.length ≤ 3 := by
        simp only [Bool.and_eq_true] at hc1
        have := inB_is hc1.1.1.1.2
        omega
      have k85 := fun h => K85 (X := dX cZE) rfl rs.length (by omega) h
      have hpw := pow_le (k := rs.length) (by omega)
      have ws : IntKind.i64.wrap (2 ^ rs.length - 1) = w64 (w64 (2 ^ min rs.length 64) - 1) := by
        rw [show min rs.length 64 = rs.length by omega, w64_small (n := 2 ^ rs.length) (by omega) (by omega)]; rfl
      have ws2 : IntKind.i64.wrap ((rs.length : Int) - 1) = w64 ((rs.length : Int) - 1) := rfl
      have HC1 := Lib.hid hc1
      simp only [Bool.and_eq_true] at hc1
      obtain ⟨⟨⟨⟨b1, b2⟩, b3⟩, b4⟩, b5⟩ := hc1
      clear hpw
      refine ClR.walk (c := _) rfl Tryz.func24 rfl (by kernel_rfl) rfl isRet_fail ?_
      simp only [entryEnv, Nat.reduceAdd]
      repeat' (first | refine goS ?_ | (apply U6; exact Z1; exact Z1; (focus (simp only [List.nil_append, List.append_nil]; first | exact K84 rfl _ _ _ _)); simp only [pM, pN, rR, rP]) | refine go2 (fun hh => ?_) (fun hh => ?_) | fail)
      clear b1 b2 b3 b4 b5 hq4 hq5
      refine W.loopH (rs.length) [1] [1] (fun k e lm => e.get 3 = some (.int .i64 ↑k) ∧ ((rs.take k).any fun r => !roomB r.lo r.hi r.mke r.wt r.stt) = false) ?_ ?_
      · refine ⟨?_, ?_⟩ <;> first | exact Z2 | rfl | assumption | (simp [go_sem, *]; done)
      intro k e lm hk0 hce hcl hinv
      simp only [keepE, and_true] at hce
      have c1 := hce
      clear hce
      simp only [go_sem, *, Nat.reduceLT, Int.reduceEq, Int.reduceBEq, Int.reduceLE, Int.reduceLT, Nat.reduceAdd, Nat.reduceBEq, Nat.reduceEqDiff, reduceIte, Nat.reduceLeDiff, Nat.reduceMul, Nat.reduceSub, reduceCtorEq] at c1
      simp only [keepL, and_true] at hcl
      have d1 := hcl
      clear hcl
      simp only [go_sem, *, Nat.reduceLT, Int.reduceEq, Int.reduceBEq, Int.reduceLE, Int.reduceLT, Nat.reduceAdd, Nat.reduceBEq, Nat.reduceEqDiff, reduceIte, Nat.reduceLeDiff, Nat.reduceMul, Nat.reduceSub, reduceCtorEq] at d1
      obtain ⟨h3, hok⟩ := hinv
      by_cases hlt : k < rs.length
      · have hd0 : decide ((k : Int) < ((rs.length : Nat) : Int)) = true := by simpa using hlt
        have hv_0 := wrap_succ hlt m1
        obtain ⟨p, hp⟩ := get_some hlt
        have hix := fun H => rms_idx H1.out hp H
        have hnx := any_next (f := fun r => !roomB r.lo r.hi r.mke r.wt r.stt) hp
        have hmem := any_mem (f := fun r => !roomB r.lo r.hi r.mke r.wt r.stt) hp
        have hrb : roomB p.lo p.hi p.mke p.wt p.stt = (!decide (p.lo < 0) && !decide (p.lo > p.hi) && !decide (p.hi > 50) && inB p.mke 0 1000 && inB p.wt 0 4 && inB p.stt 0 50) := rfl
        have HOK := Lib.hid hok
        have HNX := Lib.hid hnx
        have HMEM := Lib.hid hmem
        have HRB := Lib.hid hrb
        have HLT0 := Lib.hid hlt
        clear hok hnx hmem hrb hp hlt
        by_cases hz : roomB p.lo p.hi p.mke p.wt p.stt = true
        · rw [HRB.out] at hz
          simp only [Bool.and_eq_true, Bool.not_eq_true'] at hz
          obtain ⟨⟨⟨⟨⟨z1, z2⟩, z3⟩, z4⟩, z5⟩, z6⟩ := hz
          repeat' (first | refine goS ?_ | (apply U6; exact Z1; exact Z1; (focus (simp only [List.nil_append, List.append_nil]; first | exact K84 rfl _ _ _ _)); simp only [pM, pN, rR, rP]) | refine go2 (fun hh => ?_) (fun hh => ?_) | fail)
          all_goals refine contH_mk (by first | assumption | exact HLT0.out) (by simp only [keepE, and_true, and_self, go_sem, *, Nat.reduceLT, Int.reduceEq, Int.reduceBEq, Int.reduceLE, Int.reduceLT, Nat.reduceAdd, Nat.reduceBEq, Nat.reduceEqDiff, reduceIte, Nat.reduceLeDiff, Nat.reduceMul, Nat.reduceSub, reduceCtorEq]) (by simp only [keepL, and_true, and_self, go_sem, *, Nat.reduceLT, Int.reduceEq, Int.reduceBEq, Int.reduceLE, Int.reduceLT, Nat.reduceAdd, Nat.reduceBEq, Nat.reduceEqDiff, reduceIte, Nat.reduceLeDiff, Nat.reduceMul, Nat.reduceSub, reduceCtorEq]) ?_
          all_goals refine ⟨?_, ?_⟩
          all_goals first | exact Z2 | skip
          rw [HNX.out, HOK.out, HRB.out, z1, z2, z3, z4, z5, z6]
          rfl
        · have hz : roomB p.lo p.hi p.mke p.wt p.stt = false := by simpa using hz
          have hbad : houseB ⟨n, rs, fs, os, hds⟩ = false := by
            have : (rs.any fun r => !roomB r.lo r.hi r.mke r.wt r.stt) = true := HMEM.out (by rw [hz]; rfl)
            rw [HB.out, this]; simp
          rw [hbad]
          clear hbad
          rw [HRB.out] at hz
          have hcase : (decide (p.lo < 0) = true) ∨ (decide (p.lo < 0) = false ∧ decide (p.lo > p.hi) = true) ∨ (decide (p.lo < 0) = false ∧ decide (p.lo > p.hi) = false ∧ decide (p.hi > 50) = true) ∨ (decide (p.lo < 0) = false ∧ decide (p.lo > p.hi) = false ∧ decide (p.hi > 50) = false ∧ inB p.mke 0 1000 = false) ∨ (decide (p.lo < 0) = false ∧ decide (p.lo > p.hi) = false ∧ decide (p.hi > 50) = false ∧ inB p.mke 0 1000 = true ∧ inB p.wt 0 4 = false) ∨
              (decide (p.lo < 0) = false ∧ decide (p.lo > p.hi) = false ∧ decide (p.hi > 50) = false ∧ inB p.mke 0 1000 = true ∧ inB p.wt 0 4 = true ∧ inB p.stt 0 50 = false) := by
            revert hz
            cases decide (p.lo < 0) <;> cases decide (p.lo > p.hi) <;> cases decide (p.hi > 50) <;> cases inB p.mke 0 1000 <;> cases inB p.wt 0 4 <;> cases inB p.stt 0 50 <;> simp
          clear hz
          rcases hcase with z1 | ⟨z1, z2⟩ | ⟨z1, z2, z3⟩ | ⟨z1, z2, z3, z4⟩ | ⟨z1, z2, z3, z4, z5⟩ | ⟨z1, z2, z3, z4, z5, z6⟩
          all_goals (
            repeat' (first | refine goS ?_ | (apply U6; exact Z1; exact Z1; (focus (simp only [List.nil_append, List.append_nil]; first | exact K84 rfl _ _ _ _)); simp only [pM, pN, rR, rP]) | refine go2 (fun hh => ?_) (fun hh => ?_) | fail)
            all_goals simp only [resV_def (X := dX cZE) Tryz.func24, Tryz.results24, resultsV, resultV, go_sem, *, Nat.reduceLT, Int.reduceEq, Int.reduceBEq, Int.reduceLE, Int.reduceLT, Nat.reduceAdd, Nat.reduceBEq, Nat.reduceEqDiff, reduceIte, Nat.reduceLeDiff, Nat.reduceMul, Nat.reduceSub, reduceCtorEq, frzRes, dFrz, frzCells, isRet_ret, tupleOf])
      · have hd0 : decide ((k : Int) < ((rs.length : Nat) : Int)) = false := by simpa using hlt
        obtain rfl : k = rs.length := by omega
        rw [List.take_length] at hok
        have HOK1 := Lib.hid hok
        clear hok
        repeat' (first | refine goS ?_ | refine go2 (fun hh => ?_) (fun hh => ?_) | fail)
        refine W.loopH (fs.length) [1] [1] (fun j e1 lm1 => e1.get 5 = some (.int .i64 ↑j) ∧ ((fs.take j).any fun f => !fanB rs.length f) = false) ?_ ?_
        · refine ⟨?_, ?_⟩ <;> first | exact Z2 | rfl | assumption | (simp [go_sem, *]; done)
        intro j e1 lm1 hk1 hce hcl hinv
        simp only [keepE, and_true] at hce
        have c1 := hce
        clear hce
        simp only [go_sem, *, Nat.reduceLT, Int.reduceEq, Int.reduceBEq, Int.reduceLE, Int.reduceLT, Nat.reduceAdd, Nat.reduceBEq, Nat.reduceEqDiff, reduceIte, Nat.reduceLeDiff, Nat.reduceMul, Nat.reduceSub, reduceCtorEq] at c1
        simp only [keepL, and_true] at hcl
        have d1 := hcl
        clear hcl
        simp only [go_sem, *, Nat.reduceLT, Int.reduceEq, Int.reduceBEq, Int.reduceLE, Int.reduceLT, Nat.reduceAdd, Nat.reduceBEq, Nat.reduceEqDiff, reduceIte, Nat.reduceLeDiff, Nat.reduceMul, Nat.reduceSub, reduceCtorEq] at d1
        obtain ⟨h5, hok⟩ := hinv
        by_cases hjt : j < fs.length
        · have hd1 : decide ((j : Int) < ((fs.length : Nat) : Int)) = true := by simpa using hjt
          have hv_1 := wrap_succ hjt m2
          obtain ⟨p, hp⟩ := get_some hjt
          have hix := fun H => fas_idx H2.out hp H
          have hnx := any_next (f := fun f => !fanB rs.length f) hp
          have hmem := any_mem (f := fun f => !fanB rs.length f) hp
          have hrb : fanB rs.length p = (inB p.room 0 (w64 ((rs.length : Int) - 1)) && inB p.draws 0 50) := rfl
          have HOK := Lib.hid hok
          have HNX := Lib.hid hnx
          have HMEM := Lib.hid hmem
          have HRB := Lib.hid hrb
          have HLT1 := Lib.hid hjt
          clear hok hnx hmem hrb hp hjt
          by_cases hz : (inB p.room 0 (w64 ((rs.length : Int) - 1)) && inB p.draws 0 50) = true
          · simp only [Bool.and_eq_true] at hz
            obtain ⟨z1, z2⟩ := hz
            repeat' (first | (apply W.drawQ (id := 12) (l1 := [0, 1, 2, 3, 4, 5, 6, 7, 8, 9, 10, 11, 12, 13, 14, 15, 16, 17, 18, 19, 20, 21]) (l2 := []); kernel_rfl; kernel_rfl; kernel_rfl; exact Z4) | (apply W.drawQ (id := 17) (l1 := [0, 1, 2, 3, 4, 5, 6, 7, 8, 9, 10, 11]) (l2 := []); kernel_rfl; kernel_rfl; kernel_rfl; exact Z4) | refine go1 ?_ | (apply U6; exact Z1; exact Z1; (focus (simp only [List.nil_append, List.append_nil]; first | exact K84 rfl _ _ _ _)); simp only [pM, pN, rR, rP]) | refine go2 (fun hh => ?_) (fun hh => ?_) | fail)
            all_goals refine contH_mk (by first | assumption | exact HLT1.out) (by simp only [keepE, and_true, and_self, go_sem, *, Nat.reduceLT, Int.reduceEq, Int.reduceBEq, Int.reduceLE, Int.reduceLT, Nat.reduceAdd, Nat.reduceBEq, Nat.reduceEqDiff, reduceIte, Nat.reduceLeDiff, Nat.reduceMul, Nat.reduceSub, reduceCtorEq]) (by simp only [keepL, and_true, and_self, go_sem, *, Nat.reduceLT, Int.reduceEq, Int.reduceBEq, Int.reduceLE, Int.reduceLT, Nat.reduceAdd, Nat.reduceBEq, Nat.reduceEqDiff, reduceIte, Nat.reduceLeDiff, Nat.reduceMul, Nat.reduceSub, reduceCtorEq]) ?_
            all_goals refine ⟨?_, ?_⟩
            all_goals first | exact Z2 | skip
            rw [HNX.out, HOK.out, HRB.out, z1, z2]
            rfl
          · have hbad : houseB ⟨n, rs, fs, os, hds⟩ = false := by
              have : (fs.any fun f => !fanB rs.length f) = true := HMEM.out (by
                rw [HRB.out]; revert hz; cases (inB p.room 0 (w64 ((rs.length : Int) - 1)) && inB p.draws 0 50) <;> simp)
              rw [HB.out, this]; simp
            rw [hbad]
            have hcase : (inB p.room 0 (w64 ((rs.length : Int) - 1)) = false) ∨ (inB p.room 0 (w64 ((rs.length : Int) - 1)) = true ∧ inB p.draws 0 50 = false) := by
              revert hz; cases inB p.room 0 (w64 ((rs.length : Int) - 1)) <;> cases inB p.draws 0 50 <;> simp
            clear hz hbad
            rcases hcase with z1 | ⟨z1, z2⟩
            all_goals (
              repeat' (first | (apply W.drawQ (id := 12) (l1 := [0, 1, 2, 3, 4, 5, 6, 7, 8, 9, 10, 11, 12, 13, 14, 15, 16, 17, 18, 19, 20, 21]) (l2 := []); kernel_rfl; kernel_rfl; kernel_rfl; exact Z4) | (apply W.drawQ (id := 17) (l1 := [0, 1, 2, 3, 4, 5, 6, 7, 8, 9, 10, 11]) (l2 := []); kernel_rfl; kernel_rfl; kernel_rfl; exact Z4) | refine go1 ?_ | (apply U6; exact Z1; exact Z1; (focus (simp only [List.nil_append, List.append_nil]; first | exact K84 rfl _ _ _ _)); simp only [pM, pN, rR, rP]) | refine go2 (fun hh => ?_) (fun hh => ?_) | fail)
              all_goals simp only [resV_def (X := dX cZE) Tryz.func24, Tryz.results24, resultsV, resultV, go_sem, *, Nat.reduceLT, Int.reduceEq, Int.reduceBEq, Int.reduceLE, Int.reduceLT, Nat.reduceAdd, Nat.reduceBEq, Nat.reduceEqDiff, reduceIte, Nat.reduceLeDiff, Nat.reduceMul, Nat.reduceSub, reduceCtorEq, frzRes, dFrz, frzCells, isRet_ret, tupleOf])
        · have hd1 : decide ((j : Int) < ((fs.length : Nat) : Int)) = false := by simpa using hjt
          obtain rfl : j = fs.length := by omega
          rw [List.take_length] at hok
          have HOK2 := Lib.hid hok
          clear hok
          repeat' (first | refine goS ?_ | refine go2 (fun hh => ?_) (fun hh => ?_) | fail)
          refine W.loopH (os.length) [1] [1] (fun i e2 lm2 => e2.get 6 = some (.int .i64 ↑i) ∧ ((os.take i).any fun x => !setB rs.length x) = false) ?_ ?_
          · refine ⟨?_, ?_⟩ <;> first | exact Z2 | rfl | assumption | (simp [go_sem, *]; done)
          intro i e2 lm2 hk2 hce hcl hinv
          simp only [keepE, and_true] at hce
          have c1 := hce
          clear hce
          simp only [go_sem, *, Nat.reduceLT, Int.reduceEq, Int.reduceBEq, Int.reduceLE, Int.reduceLT, Nat.reduceAdd, Nat.reduceBEq, Nat.reduceEqDiff, reduceIte, Nat.reduceLeDiff, Nat.reduceMul, Nat.reduceSub, reduceCtorEq] at c1
          simp only [keepL, and_true] at hcl
          have d1 := hcl
          clear hcl
          simp only [go_sem, *, Nat.reduceLT, Int.reduceEq, Int.reduceBEq, Int.reduceLE, Int.reduceLT, Nat.reduceAdd, Nat.reduceBEq, Nat.reduceEqDiff, reduceIte, Nat.reduceLeDiff, Nat.reduceMul, Nat.reduceSub, reduceCtorEq] at d1
          obtain ⟨h6, hok⟩ := hinv
          by_cases hit : i < os.length
          · have hd2 : decide ((i : Int) < ((os.length : Nat) : Int)) = true := by simpa using hit
            have hv_2 := wrap_succ hit m3
            obtain ⟨p, hp⟩ := get_some hit
            have hix := fun H => ints_idx H3.out hp H
            have hnx := any_next (f := fun x => !setB rs.length x) hp
            have hmem := any_mem (f := fun x => !setB rs.length x) hp
            have hrb : setB rs.length p = inB p 0 (w64 (w64 (2 ^ min rs.length 64) - 1)) := rfl
            have HOK := Lib.hid hok
            have HNX := Lib.hid hnx
            have HMEM := Lib.hid hmem
            have HRB := Lib.hid hrb
            have HLT2 := Lib.hid hit
            clear hok hnx hmem hrb hp hit
            by_cases hz : inB p 0 (w64 (w64 (2 ^ min rs.length 64) - 1)) = true
            · repeat' (first | (apply W.drawQ (id := 12) (l1 := [0, 1, 2, 3, 4, 5, 6, 7, 8, 9, 10, 11, 12, 13, 14, 15, 16, 17, 18, 19, 20, 21]) (l2 := []); kernel_rfl; kernel_rfl; kernel_rfl; exact Z4) | (apply W.drawQ (id := 17) (l1 := [0, 1, 2, 3, 4, 5, 6, 7, 8, 9, 10, 11]) (l2 := []); kernel_rfl; kernel_rfl; kernel_rfl; exact Z4) | refine go1 ?_ | (apply U6; exact Z1; exact Z1; (focus (simp only [List.nil_append, List.append_nil]; first | exact K84 rfl _ _ _ _ | exact k85 _)); simp only [pM, pN, rR, rP]) | refine go2 (fun hh => ?_) (fun hh => ?_) | fail)
              all_goals refine contH_mk (by first | assumption | exact HLT2.out) (by simp only [keepE, and_true, and_self, go_sem, *, Nat.reduceLT, Int.reduceEq, Int.reduceBEq, Int.reduceLE, Int.reduceLT, Nat.reduceAdd, Nat.reduceBEq, Nat.reduceEqDiff, reduceIte, Nat.reduceLeDiff, Nat.reduceMul, Nat.reduceSub, reduceCtorEq]) (by simp only [keepL, and_true, and_self, go_sem, *, Nat.reduceLT, Int.reduceEq, Int.reduceBEq, Int.reduceLE, Int.reduceLT, Nat.reduceAdd, Nat.reduceBEq, Nat.reduceEqDiff, reduceIte, Nat.reduceLeDiff, Nat.reduceMul, Nat.reduceSub, reduceCtorEq]) ?_
              all_goals refine ⟨?_, ?_⟩
              all_goals first | exact Z2 | skip
              rw [HNX.out, HOK.out, HRB.out, hz]
              rfl
            · have hz : inB p 0 (w64 (w64 (2 ^ min rs.length 64) - 1)) = false := by simpa using hz
              have hbad : houseB ⟨n, rs, fs, os, hds⟩ = false := by
                have : (os.any fun x => !setB rs.length x) = true := HMEM.out (by rw [HRB.out, hz]; rfl)
                rw [HB.out, this]; simp
              rw [hbad]
              clear hbad
              repeat' (first | (apply W.drawQ (id := 12) (l1 := [0, 1, 2, 3, 4, 5, 6, 7, 8, 9, 10, 11, 12, 13, 14, 15, 16, 17, 18, 19, 20, 21]) (l2 := []); kernel_rfl; kernel_rfl; kernel_rfl; exact Z4) | (apply W.drawQ (id := 17) (l1 := [0, 1, 2, 3, 4, 5, 6, 7, 8, 9, 10, 11]) (l2 := []); kernel_rfl; kernel_rfl; kernel_rfl; exact Z4) | refine go1 ?_ | (apply U6; exact Z1; exact Z1; (focus (simp only [List.nil_append, List.append_nil]; first | exact K84 rfl _ _ _ _ | exact k85 _)); simp only [pM, pN, rR, rP]) | refine go2 (fun hh => ?_) (fun hh => ?_) | fail)
              all_goals simp only [resV_def (X := dX cZE) Tryz.func24, Tryz.results24, resultsV, resultV, go_sem, *, Nat.reduceLT, Int.reduceEq, Int.reduceBEq, Int.reduceLE, Int.reduceLT, Nat.reduceAdd, Nat.reduceBEq, Nat.reduceEqDiff, reduceIte, Nat.reduceLeDiff, Nat.reduceMul, Nat.reduceSub, reduceCtorEq, frzRes, dFrz, frzCells, isRet_ret, tupleOf]
          · have hd2 : decide ((i : Int) < ((os.length : Nat) : Int)) = false := by simpa using hit
            obtain rfl : i = os.length := by omega
            rw [List.take_length] at hok
            have HOK3 := Lib.hid hok
            clear hok
            repeat' (first | refine goS ?_ | refine go2 (fun hh => ?_) (fun hh => ?_) | fail)
            refine W.loopH (hds.length) [1] [1] (fun m e3 lm3 => e3.get 7 = some (.int .i64 ↑m) ∧ ((hds.take m).any fun x => !handB x.limit x.most) = false) ?_ ?_
            · refine ⟨?_, ?_⟩ <;> first | exact Z2 | rfl | assumption | (simp [go_sem, *]; done)
            intro m e3 lm3 hk3 hce hcl hinv
            simp only [keepE, and_true] at hce
            have c1 := hce
            clear hce
            simp only [go_sem, *, Nat.reduceLT, Int.reduceEq, Int.reduceBEq, Int.reduceLE, Int.reduceLT, Nat.reduceAdd, Nat.reduceBEq, Nat.reduceEqDiff, reduceIte, Nat.reduceLeDiff, Nat.reduceMul, Nat.reduceSub, reduceCtorEq] at c1
            simp only [keepL, and_true] at hcl
            have d1 := hcl
            clear hcl
            simp only [go_sem, *, Nat.reduceLT, Int.reduceEq, Int.reduceBEq, Int.reduceLE, Int.reduceLT, Nat.reduceAdd, Nat.reduceBEq, Nat.reduceEqDiff, reduceIte, Nat.reduceLeDiff, Nat.reduceMul, Nat.reduceSub, reduceCtorEq] at d1
            obtain ⟨h7, hok⟩ := hinv
            by_cases hmt : m < hds.length
            · have hd3 : decide ((m : Int) < ((hds.length : Nat) : Int)) = true := by simpa using hmt
              have hv_3 := wrap_succ hmt m4
              obtain ⟨p, hp⟩ := get_some hmt
              have hix := fun H => has_idx H4.out hp H
              have hnx := any_next (f := fun x => !handB x.limit x.most) hp
              have hmem := any_mem (f := fun x => !handB x.limit x.most) hp
              have hrb : handB p.limit p.most = (inB p.limit 0 2000 && inB p.most 0 4) := rfl
              have HOK := Lib.hid hok
              have HNX := Lib.hid hnx
              have HMEM := Lib.hid hmem
              have HRB := Lib.hid hrb
              have HLT3 := Lib.hid hmt
              clear hok hnx hmem hrb hp hmt
              by_cases hz : (inB p.limit 0 2000 && inB p.most 0 4) = true
              · simp only [Bool.and_eq_true] at hz
                obtain ⟨z1, z2⟩ := hz
                repeat' (first | refine goS ?_ | (apply U6; exact Z1; exact Z1; (focus (simp only [List.nil_append, List.append_nil]; first | exact K84 rfl _ _ _ _)); simp only [pM, pN, rR, rP]) | refine go2 (fun hh => ?_) (fun hh => ?_) | fail)
                all_goals refine contH_mk (by first | assumption | exact HLT3.out) (by simp only [keepE, and_true, and_self, go_sem, *, Nat.reduceLT, Int.reduceEq, Int.reduceBEq, Int.reduceLE, Int.reduceLT, Nat.reduceAdd, Nat.reduceBEq, Nat.reduceEqDiff, reduceIte, Nat.reduceLeDiff, Nat.reduceMul, Nat.reduceSub, reduceCtorEq]) (by simp only [keepL, and_true, and_self, go_sem, *, Nat.reduceLT, Int.reduceEq, Int.reduceBEq, Int.reduceLE, Int.reduceLT, Nat.reduceAdd, Nat.reduceBEq, Nat.reduceEqDiff, reduceIte, Nat.reduceLeDiff, Nat.reduceMul, Nat.reduceSub, reduceCtorEq]) ?_
                all_goals refine ⟨?_, ?_⟩
                all_goals first | exact Z2 | skip
                rw [HNX.out, HOK.out, HRB.out, z1, z2]
                rfl
              · have hbad : houseB ⟨n, rs, fs, os, hds⟩ = false := by
                  have : (hds.any fun x => !handB x.limit x.most) = true := HMEM.out (by
                    rw [HRB.out]; revert hz; cases (inB p.limit 0 2000 && inB p.most 0 4) <;> simp)
                  rw [HB.out, this]; simp
                rw [hbad]
                have hcase : (inB p.limit 0 2000 = false) ∨ (inB p.limit 0 2000 = true ∧ inB p.most 0 4 = false) := by
                  revert hz; cases inB p.limit 0 2000 <;> cases inB p.most 0 4 <;> simp
                clear hz hbad
                rcases hcase with z1 | ⟨z1, z2⟩
                all_goals (
                  repeat' (first | refine goS ?_ | (apply U6; exact Z1; exact Z1; (focus (simp only [List.nil_append, List.append_nil]; first | exact K84 rfl _ _ _ _)); simp only [pM, pN, rR, rP]) | refine go2 (fun hh => ?_) (fun hh => ?_) | fail)
                  all_goals simp only [resV_def (X := dX cZE) Tryz.func24, Tryz.results24, resultsV, resultV, go_sem, *, Nat.reduceLT, Int.reduceEq, Int.reduceBEq, Int.reduceLE, Int.reduceLT, Nat.reduceAdd, Nat.reduceBEq, Nat.reduceEqDiff, reduceIte, Nat.reduceLeDiff, Nat.reduceMul, Nat.reduceSub, reduceCtorEq, frzRes, dFrz, frzCells, isRet_ret, tupleOf])
            · have hd3 : decide ((m : Int) < ((hds.length : Nat) : Int)) = false := by simpa using hmt
              obtain rfl : m = hds.length := by omega
              rw [List.take_length] at hok
              have hgood : houseB ⟨n, rs, fs, os, hds⟩ = true := by
                have h1 := HC1.out
                rw [HB.out, h1, HOK1.out, HOK2.out, HOK3.out, hok]
                rfl
              rw [hgood]
              clear hok hgood
              repeat' (first | refine goS ?_ | refine go2 (fun hh => ?_) (fun hh => ?_) | fail)
              all_goals simp only [resV_def (X := dX cZE) Tryz.func24, Tryz.results24, resultsV, resultV, go_sem, *, Nat.reduceLT, Int.reduceEq, Int.reduceBEq, Int.reduceLE, Int.reduceLT, Nat.reduceAdd, Nat.reduceBEq, Nat.reduceEqDiff, reduceIte, Nat.reduceLeDiff, Nat.reduceMul, Nat.reduceSub, reduceCtorEq, frzRes, dFrz, frzCells, isRet_ret, tupleOf]
    · have hbad : houseB ⟨n, rs, fs, os, hds⟩ = false := by
        have : (inB n 1 4 && inB rs.length 1 3 && decide ((fs.length : Int) ≤ 4) && inB hds.length 1 4 && ((os.length : Int) == n)) = false := by simpa using hc1
        rw [HB.out, this]; simp
      rw [hbad]
      have HC1 := Lib.hid hc1
      clear hc1 hbad
      have hcase : (inB n 1 4 = false) ∨ (inB n 1 4 = true ∧ inB rs.length 1 3 = false) ∨ (inB n 1 4 = true ∧ inB rs.length 1 3 = true ∧ decide ((fs.length : Int) ≤ 4) = false) ∨ (inB n 1 4 = true ∧ inB rs.length 1 3 = true ∧ decide ((fs.length : Int) ≤ 4) = true ∧ inB hds.length 1 4 = false) ∨ (inB n 1 4 = true ∧ inB rs.length 1 3 = true ∧ decide ((fs.length : Int) ≤ 4) = true ∧ inB hds.length 1 4 = true ∧ ((os.length : Int) == n) = false) := by
        have := HC1.out
        revert this; cases inB n 1 4 <;> cases inB rs.length 1 3 <;> cases decide ((fs.length : Int) ≤ 4) <;> cases inB hds.length 1 4 <;> cases ((os.length : Int) == n) <;> simp
      clear HC1
      rcases hcase with z1 | ⟨z1, z2⟩ | ⟨z1, z2, z3⟩ | ⟨z1, z2, z3, z4⟩ | ⟨z1, z2, z3, z4, z5⟩
      all_goals (
        refine ClR.walk (c := _) rfl Tryz.func24 rfl (by kernel_rfl) rfl isRet_fail ?_
        simp only [entryEnv, Nat.reduceAdd]
        repeat' (first | refine goS ?_ | (apply U6; exact Z1; exact Z1; (focus (simp only [List.nil_append, List.append_nil]; first | exact K84 rfl _ _ _ _)); simp only [pM, pN, rR, rP]) | refine go2 (fun hh => ?_) (fun hh => ?_) | fail)
        all_goals simp only [resV_def (X := dX cZE) Tryz.func24, Tryz.results24, resultsV, resultV, go_sem, *, Nat.reduceLT, Int.reduceEq, Int.reduceBEq, Int.reduceLE, Int.reduceLT, Nat.reduceAdd, Nat.reduceBEq, Nat.reduceEqDiff, reduceIte, Nat.reduceLeDiff, Nat.reduceMul, Nat.reduceSub, reduceCtorEq, frzRes, dFrz, frzCells, isRet_ret, tupleOf])
  · cases h
theorem F24D : IntrFn Tryz.prog 24 (flatFnD sp82) := flatD_fn (X := dX cZE) cZE_sound p82 R24
theorem K24 {X : Ctx} (hX : X.intr 24 = some (flatFnD sp82)) {ra fa oa ha : AV} {m : Hs} {h : Heap} (h1 : SeeV h rmC ra m.rooms) (h2 : SeeV h faC fa m.fans) (h3 : SeeV h intC oa m.op) (h4 : SeeV h haC ha m.hands) :
    Cl X 24 [.agg [.int .i64 m.hours, ra, fa, oa, ha]] h (.ret (.bool (houseB m)) h none) := by
  obtain ⟨ra', v1, s1⟩ := h1
  obtain ⟨fa', v2, s2⟩ := h2
  obtain ⟨oa', v3, s3⟩ := h3
  obtain ⟨ha', v4, s4⟩ := h4
  exact Cl.intr hX (by simp only [flatFnD, viewDs, viewD_hs v1 v2 v3 v4, sp82, hsV, s1, s2, s3, s4, Option.map_some])
end Go.AM
set_option linter.unusedSectionVars false
set_option linter.unusedVariables false
set_option linter.unusedSimpArgs false
set_option maxRecDepth 100000
namespace Go.AM
open Go Go.Proofs
variable [Keep]
attribute [local irreducible] W WO WO1 WD WQ WT thenQ blockQ endR isRet retK Cl ClR
open Go.TX (Rm Fa Ha Hs numP smallP isDig valD val_app dig_bds mapO mapO_next mapO_none mapO_len spL_app spL_end dig_small dig_step digF_len lineW)
def preD (n : Nat) : List UInt8 := if n < 10 then [] else digF 20 (n / 10)
theorem dig_pre {n : Nat} (hu : n < 10 ^ 18) : digF 20 n = preD n ++ [UInt8.ofNat (48 + n % 10)] := by
  unfold preD
  by_cases h : n < 10
  · rw [if_pos h, dig_small h, Nat.mod_eq_of_lt h]
    rfl
  · rw [if_neg h, dig_step (by omega) hu]
theorem u8_wrap {n : Nat} (h : n < 256) : IntKind.u8.wrap ((n : Nat) : Int) = (n : Int) := by
  simp [IntKind.wrap, IntKind.bits, IntKind.signed]
  omega
set_option maxHeartbeats 1000000 in
theorem C115p (c : FuncId → Option (List AV → Heap → Option (AV × Heap))) (hc : c 115 = none) (n0 : Nat) (hn0 : n0 ≤ 1000000) (h : Heap) : Cl (dX c) 115 [.int .i64 (n0 : Int)] h (.ret (.str (digF 20 n0)) h none) := by
  refine ClR.cl ?_
  have b10 : ((10 : Int) == 0) = false := rfl
  have hm : ((n0 : Nat) : Int).tmod 10 = ((n0 % 10 : Nat) : Int) := by rw [Int.tmod_eq_emod_of_nonneg (by omega)]; omega
  have hw : IntKind.i64.wrap (48 + ((n0 % 10 : Nat) : Int)) = ((48 + n0 % 10 : Nat) : Int) := by rw [wrap_small (by omega) (by omega)]; omega
  have hu : IntKind.u8.wrap ((48 + n0 % 10 : Nat) : Int) = ((48 + n0 % 10 : Nat) : Int) := u8_wrap (by omega)
  refine ClR.walk (c := _) hc Tryz.func115 rfl (by kernel_rfl) rfl (fun e => by cases e) ?_
  simp only [entryEnv, Nat.reduceAdd]
  repeat' (first | (apply WO1.b2s (e := 5); exact Z1; exact Z2; exact Z2; exact Z2; exact Z1; (focus (exact bytesOf_one _)); exact rfl; simp only [pM, pN]) | refine go1 ?_ | refine go2 (fun hh => ?_) (fun hh => ?_) | fail)
  refine W.loopN (n0 + 1) (fun k F => ∃ e n s, F = Fr.mk 115 false e .nil h [] none ∧ digF 20 n0 = preD n ++ s ∧ n + k ≤ n0 ∧ e.get 0 = some (.int .i64 ((n : Nat) : Int)) ∧ e.get 3 = some (.str s)) ?_ ?_
  · refine ⟨_, n0, [UInt8.ofNat (48 + n0 % 10)], rfl, ?_, ?_, ?_, ?_⟩
    · exact dig_pre (by omega)
    · omega
    · simp [go_sem, *]
    · simp only [Int.toNat_natCast, go_sem, *, Nat.reduceLT, Int.reduceEq, Int.reduceBEq, Int.reduceLE, Int.reduceLT, Nat.reduceAdd, Nat.reduceBEq, Nat.reduceEqDiff, reduceIte, Nat.reduceLeDiff, Nat.reduceMul, Nat.reduceSub, reduceCtorEq]
  clear hm hw hu
  rintro k F ⟨e, n, s, rfl, hs, hk, h0, h3⟩
  have hls : s.length ≤ 20 := by
    have h1 := congrArg List.length hs
    rw [List.length_append] at h1
    have := digF_len 20 n0
    omega
  have HS := Lib.hid hs
  clear hs
  by_cases h10 : 10 ≤ n
  · have hd : decide ((n : Int) ≥ 10) = true := by simp; omega
    have hq : ((n : Nat) : Int).tdiv 10 = ((n / 10 : Nat) : Int) := by rw [Int.tdiv_eq_ediv_of_nonneg (by omega)]; omega
    have hwq : IntKind.i64.wrap ((n / 10 : Nat) : Int) = ((n / 10 : Nat) : Int) := wrap_small (by omega) (by omega)
    have hm : ((n / 10 : Nat) : Int).tmod 10 = ((n / 10 % 10 : Nat) : Int) := by rw [Int.tmod_eq_emod_of_nonneg (by omega)]; omega
    have hw : IntKind.i64.wrap (48 + ((n / 10 % 10 : Nat) : Int)) = ((48 + n / 10 % 10 : Nat) : Int) := by rw [wrap_small (by omega) (by omega)]; omega
    have hu : IntKind.u8.wrap ((48 + n / 10 % 10 : Nat) : Int) = ((48 + n / 10 % 10 : Nat) : Int) := u8_wrap (by omega)
    have hnx : digF 20 n0 = preD (n / 10) ++ ([UInt8.ofNat (48 + n / 10 % 10)] ++ s) := by
      rw [HS.out, ← List.append_assoc, ← dig_pre (by omega), preD, if_neg (by omega)]
    have HNX := Lib.hid hnx
    have HK := Lib.hid hk
    clear hk hnx
    repeat' (first | (apply WO1.b2s (e := 5); exact Z1; exact Z2; exact Z2; exact Z2; exact Z1; (focus (exact bytesOf_one _)); exact rfl; simp only [pM, pN]) | (apply WO1.sadd; exact Z1; exact Z1; exact rfl; (focus (first | omega | (simp only [List.length_append, List.length_cons, List.length_nil]; omega))); simp only [pM, pN]) | refine go1 ?_ | refine go2 (fun hh => ?_) (fun hh => ?_) | fail)
    refine ⟨by have := HK.out; omega, _, n / 10, _, rfl, HNX.out, by have := HK.out; omega, ?_, ?_⟩
    all_goals (simp only [Int.toNat_natCast, go_sem, *, Nat.reduceLT, Int.reduceEq, Int.reduceBEq, Int.reduceLE, Int.reduceLT, Nat.reduceAdd, Nat.reduceBEq, Nat.reduceEqDiff, reduceIte, Nat.reduceLeDiff, Nat.reduceMul, Nat.reduceSub, reduceCtorEq]; done)
  · have hd : decide ((n : Int) ≥ 10) = false := by simp; omega
    have hv : digF 20 n0 = s := by rw [HS.out, preD, if_pos (by omega)]; rfl
    have HV := Lib.hid hv
    clear hv hk
    repeat' (first | refine goS ?_ | refine go2 (fun hh => ?_) (fun hh => ?_) | fail)
    all_goals simp only [resV_def (X := dX c) Tryz.func115, Tryz.results115, resultsV, resultV, go_sem, *, Nat.reduceLT, Int.reduceEq, Int.reduceBEq, Int.reduceLE, Int.reduceLT, Nat.reduceAdd, Nat.reduceBEq, Nat.reduceEqDiff, reduceIte, Nat.reduceLeDiff, Nat.reduceMul, Nat.reduceSub, reduceCtorEq, frzRes, dFrz, frzCells, isRet_ret, tupleOf]
    simp [isR, frzRes, dX_frz, dFrz, HV.out]
def sp115 : List AV → Option AV
  | [.int .i64 n] => if (decide (0 ≤ n) && decide (n ≤ 1000000)) = true then some (.str (itoaF n)) else none
  | _ => none
theorem p115 : ∀ args v, sp115 args = some v → v.pur = true := by
  intro args v h
  unfold sp115 at h
  split at h
  · split at h
    · cases h; rfl
    · cases h
  · cases h
theorem F115 : IntrFn Tryz.prog 115 (pureFn sp115) := by
  refine pure_fn (X := dX i0) i0_sound p115 ?_
  intro args v h
  unfold sp115 at h
  split at h
  · rename_i n
    split at h
    · rename_i hg
      have h := Option.some.inj h
      subst h
      simp only [Bool.and_eq_true, decide_eq_true_eq] at hg
      obtain ⟨n, rfl⟩ : ∃ m : Nat, n = m := ⟨n.toNat, by omega⟩
      have := C115p i0 rfl n (by omega) emptyHp
      unfold ClR isRet
      exact ⟨_, this, rfl⟩
    · cases h
  · cases h
theorem K115 {X : Ctx} (hX : X.intr 115 = some (pureFn sp115)) (n : Int) (h0 : 0 ≤ n) (h1 : n ≤ 1000000) (h : Heap) : Cl X 115 [.int .i64 n] h (.ret (.str (itoaF n)) h none) :=
  Cl.intr hX (by
    have : (decide (0 ≤ n) && decide (n ≤ 1000000)) = true := by simp only [Bool.and_eq_true, decide_eq_true_eq]; omega
    simp only [pureFn, AV.purL, AV.pur, Bool.and_self, if_true, sp115, this])
noncomputable def c115 : FuncId → Option (List AV → Heap → Option (AV × Heap))
  | 115 => some (pureFn sp115)
  | _ => none
theorem c115_sound : Sound (dX c115) := dX_sound (fun f g h => by
  unfold c115 at h
  split at h
  · cases h; exact F115
  · cases h)
def okN (n : Int) : Bool := decide (0 ≤ n) && decide (n ≤ 1000000)
def wordsT (l : List Int) : List UInt8 := lineT [] l
def sp114 : List AV → Option AV
  | [a] => match slV intC a with
    | some l => if (l.all okN && decide (l.length ≤ 1000)) = true then some (.str (wordsT l)) else none
    | none => none
  | _ => none
theorem p114 : ∀ args v, sp114 args = some v → v.pur = true := by
  intro args v h
  unfold sp114 at h
  split at h
  · split at h
    · split at h
      · cases h; rfl
      · cases h
    · cases h
  · cases h
set_option maxHeartbeats 1000000 in
theorem F114 : IntrFn Tryz.prog 114 (pureFn sp114) := by
  refine pure_fn (X := dX c115) c115_sound p114 ?_
  intro args v h
  unfold sp114 at h
  split at h
  · rename_i a
    split at h
    · rename_i ns hl
      split at h
      · rename_i hg
        have h := Option.some.inj h
        subst h
        simp only [Bool.and_eq_true, decide_eq_true_eq] at hg
        obtain ⟨hsm, hnl⟩ := hg
        have hlen := sl_len hl
        have hout := sl_out hl
        have HL := Lib.hid hl
        have HS := Lib.hid hsm
        unfold wordsT
        clear hl hsm
        refine ClR.walk (c := _) rfl Tryz.func114 rfl (by kernel_rfl) rfl isRet_fail ?_
        simp only [entryEnv, Nat.reduceAdd]
        repeat' (first | refine goS ?_ | refine go2 (fun hh => ?_) (fun hh => ?_) | fail)
        refine W.loopH (ns.length) [0] [] (fun k e lm => e.get 4 = some (.int .i64 ↑k) ∧ e.get 3 = some (.str (lineT [] (ns.take k)))) ?_ ?_
        · refine ⟨?_, ?_⟩ <;> first | exact Z2 | rfl | assumption | (simp [lineT,lineW,go_sem, *, Nat.reduceLT, Int.reduceEq, Int.reduceBEq, Int.reduceLE, Int.reduceLT, Nat.reduceAdd, Nat.reduceBEq, Nat.reduceEqDiff, reduceIte, Nat.reduceLeDiff, Nat.reduceMul, Nat.reduceSub, reduceCtorEq]) | (simp [go_sem, *]; done)
        intro k e lm hk0 hce hcl hinv
        simp only [keepE, and_true] at hce
        have c0 := hce
        clear hce
        simp only [go_sem, *, Nat.reduceLT, Int.reduceEq, Int.reduceBEq, Int.reduceLE, Int.reduceLT, Nat.reduceAdd, Nat.reduceBEq, Nat.reduceEqDiff, reduceIte, Nat.reduceLeDiff, Nat.reduceMul, Nat.reduceSub, reduceCtorEq] at c0
        clear hcl
        obtain ⟨h4, h3⟩ := hinv
        by_cases hlt : k < ns.length
        · have hd0 : decide ((k : Int) < ((ns.length : Nat) : Int)) = true := by simpa using hlt
          have hv_0 := wrap_succ hlt (by unfold maxL; omega)
          obtain ⟨n, hn⟩ := get_some hlt
          have hix := fun H => ints_idx HL.out hn H
          have hsi := List.all_eq_true.1 HS.out n (List.mem_of_getElem? hn)
          unfold okN at hsi
          simp only [Bool.and_eq_true, decide_eq_true_eq] at hsi
          have k115 := fun h => K115 (X := dX c115) rfl n hsi.1 hsi.2 h
          have hnx := lineT_next (w := []) hn
          have hi1 := itoa_len n
          have hi2 := lineT_len [] (ns.take k)
          have hi3 : (ns.take k).length ≤ 1000 := by rw [List.length_take]; omega
          have hi4 : ([] : List UInt8).length = 0 := rfl
          have HNX := Lib.hid hnx
          have HLT0 := Lib.hid hlt
          clear hn hsi hnx hlt
          generalize itoaF n = d at *
          generalize lineT [] (ns.take k) = acc at *
          repeat' (first | (apply WO1.sadd; exact Z1; exact Z1; exact rfl; (focus (first | omega | (simp only [List.length_append, List.length_cons, List.length_nil]; omega))); simp only [pM, pN]) | refine go1 ?_ | (apply U6; exact Z1; exact Z1; (focus (simp only [List.nil_append, List.append_nil]; first | exact k115 _)); simp only [pM, pN, rR, rP]) | refine go2 (fun hh => ?_) (fun hh => ?_) | fail)
          all_goals refine contH_mk (by first | assumption | exact HLT0.out) (by simp only [keepE, and_true, and_self, go_sem, *, Nat.reduceLT, Int.reduceEq, Int.reduceBEq, Int.reduceLE, Int.reduceLT, Nat.reduceAdd, Nat.reduceBEq, Nat.reduceEqDiff, reduceIte, Nat.reduceLeDiff, Nat.reduceMul, Nat.reduceSub, reduceCtorEq]) (by simp only [keepL, and_true, and_self, go_sem, *, Nat.reduceLT, Int.reduceEq, Int.reduceBEq, Int.reduceLE, Int.reduceLT, Nat.reduceAdd, Nat.reduceBEq, Nat.reduceEqDiff, reduceIte, Nat.reduceLeDiff, Nat.reduceMul, Nat.reduceSub, reduceCtorEq]) ?_
          all_goals refine ⟨?_, ?_⟩
          all_goals first | exact Z2 | skip
          rw [HNX.out]
          simp only [go_sem, *, Nat.reduceLT, Int.reduceEq, Int.reduceBEq, Int.reduceLE, Int.reduceLT, Nat.reduceAdd, Nat.reduceBEq, Nat.reduceEqDiff, reduceIte, Nat.reduceLeDiff, Nat.reduceMul, Nat.reduceSub, reduceCtorEq, List.append_assoc]
        · have hd0 : decide ((k : Int) < ((ns.length : Nat) : Int)) = false := by simpa using hlt
          obtain rfl : k = ns.length := by omega
          rw [List.take_length] at h3
          repeat' (first | refine goS ?_ | refine go2 (fun hh => ?_) (fun hh => ?_) | fail)
          all_goals simp only [resV_def (X := dX c115) Tryz.func114, Tryz.results114, resultsV, resultV, go_sem, *, Nat.reduceLT, Int.reduceEq, Int.reduceBEq, Int.reduceLE, Int.reduceLT, Nat.reduceAdd, Nat.reduceBEq, Nat.reduceEqDiff, reduceIte, Nat.reduceLeDiff, Nat.reduceMul, Nat.reduceSub, reduceCtorEq, frzRes, dFrz, frzCells, isRet_ret, tupleOf]
          all_goals rfl
      · cases h
    · cases h
  · cases h
theorem K114 {X : Ctx} (hX : X.intr 114 = some (pureFn sp114)) (a : AV) (l : List Int) (hl : slV intC a = some l) (hn : l.all okN = true) (hnl : l.length ≤ 1000) (h : Heap) : Cl X 114 [a] h (.ret (.str (wordsT l)) h none) := by
  have : (l.all okN && decide (l.length ≤ 1000)) = true := by simp only [Bool.and_eq_true, decide_eq_true_eq]; exact ⟨hn, hnl⟩
  exact Cl.intr hX (by simp only [pureFn, AV.pur, AV.purL, sl_pur hl, Bool.and_self, if_true, sp114, hl, this])
theorem cut9 {s : List UInt8} {a b : Nat} (hab : a ≤ b) (hb : b ≤ s.length) (H : Heap) : sliceV Tryz.prog H 9 (.str s) (some (some (.int .i64 ↑a))) (some (some (.int .i64 ↑b))) none = some (.str ((s.take b).drop a)) := by
  have b1 : boundV (some (some (.int .i64 (b : Int)))) s.length s.length = some b := by
    simp only [boundV]
    rw [if_pos (by omega)]
    simp
  have b2 : boundV (some (some (.int .i64 (a : Int)))) 0 b = some a := by
    simp only [boundV]
    rw [if_pos (by omega)]
    simp
  simp only [sliceV, Tryz.underlying9, strCut, boundsV, b1, b2]
theorem cut9b {s : List UInt8} {a : Nat} (ha : a ≤ s.length) (H : Heap) : sliceV Tryz.prog H 9 (.str s) (some (some (.int .i64 ↑a))) none none = some (.str (s.drop a)) := by
  have b1 : boundV none s.length s.length = some s.length := by simp [boundV]
  have b2 : boundV (some (some (.int .i64 (a : Int)))) 0 s.length = some a := by
    simp only [boundV]
    rw [if_pos (by omega)]
    simp
  simp only [sliceV, Tryz.underlying9, strCut, boundsV, b1, b2, List.take_length]
structure Spt (c : UInt8) (s : List UInt8) (i f : Nat) (done : List (List UInt8)) : Prop where
  le : f ≤ i ∧ i ≤ s.length
  no : ∀ x ∈ (s.take i).drop f, x ≠ c
  is : spL c s = done ++ spL c (s.drop f)
theorem Spt.start (c : UInt8) (s : List UInt8) : Spt c s 0 0 [] := ⟨⟨Nat.le_refl _, Nat.zero_le _⟩, by simp, by simp⟩
theorem Spt.go {c : UInt8} {s : List UInt8} {i f : Nat} {done : List (List UInt8)} (h : Spt c s i f done) {b : UInt8} (hb : s[i]? = some b) (hc : b ≠ c) : Spt c s (i + 1) f done := by
  have hi : i < s.length := (List.getElem?_eq_some_iff.1 hb).1
  refine ⟨⟨by have := h.le; omega, by omega⟩, fun x hx => ?_, h.is⟩
  rw [take_next hb, List.drop_append_of_le_length (by rw [List.length_take]; have := h.le; omega)] at hx
  rcases List.mem_append.1 hx with hx | hx
  · exact h.no x hx
  · rcases List.mem_singleton.1 hx with rfl
    exact hc
theorem Spt.cut {c : UInt8} {s : List UInt8} {i f : Nat} {done : List (List UInt8)} (h : Spt c s i f done) (hb : s[i]? = some c) : Spt c s (i + 1) (i + 1) (done ++ [(s.take i).drop f]) := by
  have hi : i < s.length := (List.getElem?_eq_some_iff.1 hb).1
  have hle := h.le
  refine ⟨⟨Nat.le_refl _, by omega⟩, fun x hx => ?_, ?_⟩
  · rw [List.drop_of_length_le (by rw [List.length_take]; omega)] at hx
    cases hx
  · have e : s.drop f = (s.take i).drop f ++ c :: s.drop (i + 1) := by
      have e1 : s = s.take i ++ c :: s.drop (i + 1) := by
        have := List.getElem?_eq_some_iff.1 hb
        obtain ⟨h1, h2⟩ := this
        rw [← h2, ← List.drop_eq_getElem_cons h1, List.take_append_drop]
      have e2 : s.drop f = (s.take i ++ c :: s.drop (i + 1)).drop f := by rw [← e1]
      rw [e2, List.drop_append_of_le_length (by rw [List.length_take]; omega)]
    rw [h.is, e, spL_app _ h.no, List.append_assoc]
    rfl
theorem Spt.fin {c : UInt8} {s : List UInt8} {i f : Nat} {done : List (List UInt8)} (h : Spt c s i f done) (hi : i = s.length) : spL c s = done ++ [s.drop f] := by
  subst hi
  have := h.no
  rw [List.take_length] at this
  rw [h.is, spL_end this]
def sp116 : List AV → Option AV
  | [.str s, .int .u8 b] => if (decide (0 ≤ b) && decide (b < 256) && decide (s.length ≤ 1000)) = true then some (slN ((spL (UInt8.ofNat b.toNat) s).map AV.str)) else none
  | _ => none
theorem slN_strs (l : List (List UInt8)) : (slN (l.map AV.str)).pur = true := by
  have := (slN_is (l.map AV.str))
  cases l with
  | nil => rfl
  | cons a r =>
    show AV.purL _ = true
    rw [purL_mem]
    intro x hx
    obtain ⟨y, _, rfl⟩ := List.mem_map.1 hx
    rfl
theorem p116 : ∀ args v, sp116 args = some v → v.pur = true := by
  intro args v h
  unfold sp116 at h
  split at h
  · split at h
    · cases h; exact slN_strs _
    · cases h
  · cases h
set_option maxHeartbeats 2000000 in
theorem F116 : IntrFn Tryz.prog 116 (pureFn sp116) := by
  refine pure_fn (X := dX i0) i0_sound p116 ?_
  intro args v h
  unfold sp116 at h
  split at h
  · rename_i s b0
    split at h
    · rename_i hg
      have h := Option.some.inj h
      subst h
      simp only [Bool.and_eq_true, decide_eq_true_eq] at hg
      obtain ⟨⟨hb0, hb1⟩, hs⟩ := hg
      obtain ⟨c, rfl⟩ : ∃ c : UInt8, b0 = ((c.toNat : Nat) : Int) := ⟨UInt8.ofNat b0.toNat, by rw [UInt8.toNat_ofNat']; omega⟩
      have hcc : UInt8.ofNat ((c.toNat : Nat) : Int).toNat = c := by simp
      rw [hcc]
      clear hcc hb0 hb1
      refine ClR.walk (c := _) rfl Tryz.func116 rfl (by kernel_rfl) rfl isRet_fail ?_
      simp only [entryEnv, Nat.reduceAdd, emptyHp]
      repeat' (first | refine goS ?_ | refine go2 (fun hh => ?_) (fun hh => ?_) | fail)
      refine W.loopN s.length (fun k F => ∃ e hp u f done, F = Fr.mk 116 false e .nil hp [] none ∧ Blt hp u 1 (done.map AV.str) ∧ Spt c s k f done ∧ done.length ≤ k ∧ e.get 0 = some (.str s) ∧ e.get 1 = some (.int .u8 ↑c.toNat) ∧ e.get 5 = some u ∧ e.get 6 = some (.int .i64 ↑f) ∧ e.get 7 = some (.int .i64 ↑k)) ?_ ?_
      · refine ⟨_, _, _, 0, [], rfl, Blt.nil, Spt.start c s, Nat.le_refl _, ?_, ?_, ?_, ?_, ?_⟩ <;> first | exact Z2 | simp [go_sem, *]
      rintro k F ⟨e, hp, u, f, done, rfl, hB, hS, hdl, h0, h1, h5, h6, h7⟩
      have hbo := hB.out
      have hle := hS.le
      have HS := Lib.hid hS
      have HDL := Lib.hid hdl
      clear hS hdl
      by_cases hlt : k < s.length
      · obtain ⟨b, hb⟩ := get_some hlt
        have hij := idx_j hlt
        have hd : decide ((k : Int) < (s.length : Int)) = true := by simpa using hlt
        have hw := wrap_succ hlt (by unfold maxL; omega)
        have HB := Lib.hid hb
        have HLT := Lib.hid hlt
        clear hlt
        by_cases hbc : b = c
        · have heq : (((b.toNat : Nat) : Int) == ((c.toNat : Nat) : Int)) = true := by rw [hbc]; exact beq_self_eq_true _
          have hct := cut9 (s := s) hle.1 hle.2
          have hll : done.length + 1 ≤ most := by have := HDL.out; unfold most; omega
          have hnx := HS.out.cut (by rw [HB.out, hbc])
          have HNX := Lib.hid hnx
          clear hnx hbc hle
          generalize (s.take k).drop f = p at *
          repeat' (first | (apply U4 (v := .str p); (focus (simp only [go_sem, *, Nat.reduceLT, Int.reduceEq, Int.reduceBEq, Int.reduceLE, Int.reduceLT, Nat.reduceAdd, Nat.reduceBEq, Nat.reduceEqDiff, reduceIte, Nat.reduceLeDiff, Nat.reduceMul, Nat.reduceSub, reduceCtorEq, Option.map_none, Option.map_some]; done)); exact rfl; simp only [pM, pN, rR, rP]) | (apply WO1.append (t := 167) (u := 167) (e := 9) (e' := 9) (sz := 1) (tl := []) (hb := hB); exact Z1; exact rfl; exact Z2; exact Z2; exact Z2; (focus (exact ty_row167)); exact Z1; (focus (intro v hv; simp at hv; subst hv; rfl)); (focus (simp only [List.length_map, List.length_cons, List.length_nil]; exact hll)); (focus (simp)); (intro v' h' hB' ho' hX'; have hcc' := hB'.cells; have htt' := hB'.tup; simp only [AV.cells] at hcc'; simp only [isTuple] at htt'; simp only [pM, pN])) | refine go1 ?_ | refine go2 (fun hh => ?_) (fun hh => ?_) | fail)
          refine ⟨HLT.out, _, _, v', k + 1, done ++ [p], rfl, ?_, HNX.out, ?_, ?_, ?_, ?_, ?_, ?_⟩
          · rw [List.map_append]; exact hB'
          · have := HDL.out; simp; omega
          all_goals exact Z2
        · have heq : (((b.toNat : Nat) : Int) == ((c.toNat : Nat) : Int)) = false := by
            rw [beq_eq_false_iff_ne]
            intro q
            exact hbc (UInt8.toNat_inj.1 (by omega))
          have hnx := HS.out.go HB.out hbc
          have HNX := Lib.hid hnx
          clear hnx hbc hle
          repeat' (first | refine goS ?_ | refine go2 (fun hh => ?_) (fun hh => ?_) | fail)
          refine ⟨HLT.out, _, _, u, f, done, rfl, hB, HNX.out, by have := HDL.out; omega, ?_, ?_, ?_, ?_, ?_⟩
          all_goals exact Z2
      · have hd : decide ((k : Int) < (s.length : Int)) = false := by simpa using hlt
        have hfi := HS.out.fin (by omega)
        have hct := cut9b (s := s) (a := f) (by omega)
        have hll : done.length + 1 ≤ most := by have := HDL.out; unfold most; omega
        have HFI := Lib.hid hfi
        clear hfi hlt hle
        generalize s.drop f = p at *
        repeat' (first | (apply U4 (v := .str p); (focus (simp only [go_sem, *, Nat.reduceLT, Int.reduceEq, Int.reduceBEq, Int.reduceLE, Int.reduceLT, Nat.reduceAdd, Nat.reduceBEq, Nat.reduceEqDiff, reduceIte, Nat.reduceLeDiff, Nat.reduceMul, Nat.reduceSub, reduceCtorEq, Option.map_none, Option.map_some]; done)); exact rfl; simp only [pM, pN, rR, rP]) | (apply WO1.append (t := 167) (u := 167) (e := 9) (e' := 9) (sz := 1) (tl := []) (hb := hB); exact Z1; exact rfl; exact Z2; exact Z2; exact Z2; (focus (exact ty_row167)); exact Z1; (focus (intro v hv; simp at hv; subst hv; rfl)); (focus (simp only [List.length_map, List.length_cons, List.length_nil]; exact hll)); (focus (simp)); (intro v' h' hB' ho' hX'; have hcc' := hB'.cells; have htt' := hB'.tup; simp only [AV.cells] at hcc'; simp only [isTuple] at htt'; simp only [pM, pN])) | refine go1 ?_ | refine go2 (fun hh => ?_) (fun hh => ?_) | fail)
        obtain ⟨h'', hz, hz2, hz1⟩ := hB'.freeze
        rw [HFI.out, List.map_append]
        all_goals simp only [resV_def (X := dX i0) Tryz.func116, Tryz.results116, resultsV, resultV, go_sem, *, Nat.reduceLT, Int.reduceEq, Int.reduceBEq, Int.reduceLE, Int.reduceLT, Nat.reduceAdd, Nat.reduceBEq, Nat.reduceEqDiff, reduceIte, Nat.reduceLeDiff, Nat.reduceMul, Nat.reduceSub, reduceCtorEq, frzRes, dFrz, frzCells, isRet_ret, tupleOf]
        all_goals rfl
    · cases h
  · cases h
theorem K116 {X : Ctx} (hX : X.intr 116 = some (pureFn sp116)) (s : List UInt8) (c : UInt8) {n : Int} (hn : n = ((c.toNat : Nat) : Int)) (hs : s.length ≤ 1000) (h : Heap) : Cl X 116 [.str s, .int .u8 n] h (.ret (slN ((spL c s).map AV.str)) h none) := by
  subst hn
  have h1 := c.toNat_lt
  have : (decide (0 ≤ ((c.toNat : Nat) : Int)) && decide (((c.toNat : Nat) : Int) < 256) && decide (s.length ≤ 1000)) = true := by
    simp only [Bool.and_eq_true, decide_eq_true_eq]; omega
  have hcc : UInt8.ofNat ((c.toNat : Nat) : Int).toNat = c := by simp
  exact Cl.intr hX (by simp only [pureFn, AV.pur, AV.purL, Bool.and_self, if_true, sp116, this, hcc])
def numI (w : List UInt8) : Int := match numP w with | some n => n | none => -1
def sp161 : List AV → Option AV
  | [.str w] => if w.length ≤ 1000 then some (.int .i64 (numI w)) else none
  | _ => none
theorem p161 : ∀ args v, sp161 args = some v → v.pur = true := by
  intro args v h
  unfold sp161 at h
  split at h
  · split at h <;> cases h; rfl
  · cases h
theorem dec_emp (w : List UInt8) : ((w.length : Int) == 0) = w.isEmpty := by
  cases w with
  | nil => rfl
  | cons a r =>
    have : (((a :: r).length : Int) == 0) = false := by rw [beq_eq_false_iff_ne]; simp only [List.length_cons]; omega
    rw [this]; rfl
attribute [local irreducible] numP
set_option maxHeartbeats 2000000 in
theorem F161 : IntrFn Tryz.prog 161 (pureFn sp161) := by
  refine pure_fn (X := dX c115) c115_sound p161 ?_
  intro args v h
  unfold sp161 at h
  split at h
  · rename_i w
    split at h
    · rename_i hw0
      have h := Option.some.inj h
      subst h
      have hI : numI w = (match numP w with | some n => n | none => -1) := rfl
      have HI := Lib.hid hI
      have hemp := dec_emp w
      clear hI
      by_cases hem : w.isEmpty = true
      · have hno : numI w = -1 := by
          have : w = [] := by cases w with | nil => rfl | cons a r => cases hem
          rw [HI.out, this, num_def]; rfl
        rw [hno]
        rw [hem] at hemp
        clear hno hem
        refine ClR.walk (c := _) rfl Tryz.func161 rfl (by kernel_rfl) rfl isRet_fail ?_
        simp only [entryEnv, Nat.reduceAdd]
        repeat' (first | refine goS ?_ | refine go2 (fun hh => ?_) (fun hh => ?_) | fail)
        all_goals simp only [resV_def (X := dX c115) Tryz.func161, Tryz.results161, resultsV, resultV, go_sem, *, Nat.reduceLT, Int.reduceEq, Int.reduceBEq, Int.reduceLE, Int.reduceLT, Nat.reduceAdd, Nat.reduceBEq, Nat.reduceEqDiff, reduceIte, Nat.reduceLeDiff, Nat.reduceMul, Nat.reduceSub, reduceCtorEq, frzRes, dFrz, frzCells, isRet_ret, tupleOf]
      · have hem : w.isEmpty = false := by simpa using hem
        rw [hem] at hemp
        by_cases hl4 : w.length ≤ 4
        · have hg4 : decide ((w.length : Int) > 4) = false := by simp; omega
          refine ClR.walk (c := _) rfl Tryz.func161 rfl (by kernel_rfl) rfl isRet_fail ?_
          simp only [entryEnv, Nat.reduceAdd]
          repeat' (first | refine goS ?_ | refine go2 (fun hh => ?_) (fun hh => ?_) | fail)
          clear hemp hg4
          refine W.loopH (w.length) [0] [] (fun k e lm => e.get 4 = some (.int .i64 ↑k) ∧ e.get 3 = some (.int .i64 ↑(valD (w.take k))) ∧ (w.take k).all isDig = true) ?_ ?_
          · refine ⟨?_, ?_, ?_⟩ <;> first | exact Z2 | rfl | assumption | (simp [valD,go_sem, *, Nat.reduceLT, Int.reduceEq, Int.reduceBEq, Int.reduceLE, Int.reduceLT, Nat.reduceAdd, Nat.reduceBEq, Nat.reduceEqDiff, reduceIte, Nat.reduceLeDiff, Nat.reduceMul, Nat.reduceSub, reduceCtorEq]) | (simp [go_sem, *]; done)
          intro k e lm hk0 hce hcl hinv
          simp only [keepE, and_true] at hce
          have c0 := hce
          clear hce
          simp only [go_sem, *, Nat.reduceLT, Int.reduceEq, Int.reduceBEq, Int.reduceLE, Int.reduceLT, Nat.reduceAdd, Nat.reduceBEq, Nat.reduceEqDiff, reduceIte, Nat.reduceLeDiff, Nat.reduceMul, Nat.reduceSub, reduceCtorEq] at c0
          clear hcl
          obtain ⟨h4, h3, hall⟩ := hinv
          by_cases hlt : k < w.length
          · have hd0 : decide ((k : Int) < ((w.length : Nat) : Int)) = true := by simpa using hlt
            have hv_0 := wrap_succ hlt (by unfold maxL; omega)
            obtain ⟨b, hb⟩ := get_some hlt
            have hij := idx_j hlt
            have hvb : valD (w.take k) ≤ 9999 := val_le hall (by rw [List.length_take]; omega)
            have hbl := b.toNat_lt
            have HB := Lib.hid hb
            have HALL := Lib.hid hall
            have HLT0 := Lib.hid hlt
            clear hall hlt
            by_cases hbd : isDig b = true
            · have hbb := dig_bds hbd
              have c1 : decide ((b.toNat : Int) < 48) = false := by simp; omega
              have c2 : decide ((b.toNat : Int) > 57) = false := by simp; omega
              have ws : IntKind.u8.wrap ((b.toNat : Int) - 48) = ((b.toNat - 48 : Nat) : Int) := by
                simp [IntKind.wrap, IntKind.bits, IntKind.signed]
                omega
              have wc : IntKind.i64.wrap ((b.toNat - 48 : Nat) : Int) = ((b.toNat - 48 : Nat) : Int) := wrap_small (by omega) (by omega)
              have wm : IntKind.i64.wrap (10 * ((valD (w.take k) : Nat) : Int)) = 10 * ((valD (w.take k) : Nat) : Int) := wrap_small (by omega) (by omega)
              have wn : IntKind.i64.wrap (10 * ((valD (w.take k) : Nat) : Int) + ((b.toNat - 48 : Nat) : Int)) = ((valD (w.take (k + 1)) : Nat) : Int) := by
                rw [val_next HB.out, wrap_small (by omega) (by omega)]
                omega
              have HBD := Lib.hid hbd
              clear hbd hbb hvb hbl
              generalize hvn : valD (w.take (k + 1)) = vn at *
              have HVN := Lib.hid hvn
              clear hvn
              generalize valD (w.take k) = vk at *
              generalize ((b.toNat - 48 : Nat) : Int) = bs at *
              repeat' (first | refine goS ?_ | refine go2 (fun hh => ?_) (fun hh => ?_) | fail)
              all_goals refine contH_mk (by first | assumption | exact HLT0.out) (by simp only [keepE, and_true, and_self, go_sem, *, Nat.reduceLT, Int.reduceEq, Int.reduceBEq, Int.reduceLE, Int.reduceLT, Nat.reduceAdd, Nat.reduceBEq, Nat.reduceEqDiff, reduceIte, Nat.reduceLeDiff, Nat.reduceMul, Nat.reduceSub, reduceCtorEq]) (by simp only [keepL, and_true, and_self, go_sem, *, Nat.reduceLT, Int.reduceEq, Int.reduceBEq, Int.reduceLE, Int.reduceLT, Nat.reduceAdd, Nat.reduceBEq, Nat.reduceEqDiff, reduceIte, Nat.reduceLeDiff, Nat.reduceMul, Nat.reduceSub, reduceCtorEq]) ?_
              all_goals refine ⟨?_, ?_, ?_⟩
              all_goals first | exact Z2 | skip
              · rw [HVN.out]; simp only [go_sem, *, Nat.reduceLT, Int.reduceEq, Int.reduceBEq, Int.reduceLE, Int.reduceLT, Nat.reduceAdd, Nat.reduceBEq, Nat.reduceEqDiff, reduceIte, Nat.reduceLeDiff, Nat.reduceMul, Nat.reduceSub, reduceCtorEq]
              · rw [take_next HB.out, List.all_append, HALL.out]
                simp [HBD.out]
            · have hbd : isDig b = false := by simpa using hbd
              have hno : numI w = -1 := by
                rw [HI.out, num_def]
                have : w.all isDig = false := by
                  rw [List.all_eq_false]
                  exact ⟨b, List.mem_of_getElem? HB.out, by rw [hbd]; decide⟩
                rw [this]
                rfl
              rw [hno]
              have hcase : decide ((b.toNat : Int) < 48) = true ∨ (decide ((b.toNat : Int) < 48) = false ∧ decide ((b.toNat : Int) > 57) = true) := by
                unfold isDig at hbd
                simp only [Bool.and_eq_false_iff, decide_eq_false_iff_not] at hbd
                simp only [decide_eq_true_eq, decide_eq_false_iff_not]
                omega
              clear hno hbd hvb hbl
              rcases hcase with z1 | ⟨z1, z2⟩
              all_goals (
                repeat' (first | refine goS ?_ | refine go2 (fun hh => ?_) (fun hh => ?_) | fail)
                all_goals simp only [resV_def (X := dX c115) Tryz.func161, Tryz.results161, resultsV, resultV, go_sem, *, Nat.reduceLT, Int.reduceEq, Int.reduceBEq, Int.reduceLE, Int.reduceLT, Nat.reduceAdd, Nat.reduceBEq, Nat.reduceEqDiff, reduceIte, Nat.reduceLeDiff, Nat.reduceMul, Nat.reduceSub, reduceCtorEq, frzRes, dFrz, frzCells, isRet_ret, tupleOf])
          · have hd0 : decide ((k : Int) < ((w.length : Nat) : Int)) = false := by simpa using hlt
            obtain rfl : k = w.length := by omega
            rw [List.take_length] at h3 hall
            have hv : valD w ≤ 9999 := val_le hall hl4
            have hnw : numI w = if (itoaF ((valD w : Nat) : Int) == w) = true then ((valD w : Nat) : Int) else -1 := by
              rw [HI.out, num_def, hall, hem]
              simp only [hl4, decide_true, Bool.and_self, Bool.not_false, Bool.true_and]
              split
              · rename_i q; split at q
                · rename_i q2; cases q; rw [if_pos q2]
                · cases q
              · rename_i q; split at q
                · cases q
                · rename_i q2; rw [if_neg q2]
            have k115 := fun h => K115 (X := dX c115) rfl ((valD w : Nat) : Int) (by omega) (by omega) h
            have hne : (itoaF ((valD w : Nat) : Int) != w) = !(itoaF ((valD w : Nat) : Int) == w) := rfl
            rw [hnw]
            clear hv hnw hall hk0 hlt
            generalize ((valD w : Nat) : Int) = n at *
            generalize (itoaF n == w) = eq at *
            cases eq with
            | true =>
              repeat' (first | refine goS ?_ | (apply U6; exact Z1; exact Z1; (focus (simp only [List.nil_append, List.append_nil]; first | exact k115 _)); simp only [pM, pN, rR, rP]) | refine go2 (fun hh => ?_) (fun hh => ?_) | fail)
              all_goals simp only [resV_def (X := dX c115) Tryz.func161, Tryz.results161, resultsV, resultV, go_sem, *, Nat.reduceLT, Int.reduceEq, Int.reduceBEq, Int.reduceLE, Int.reduceLT, Nat.reduceAdd, Nat.reduceBEq, Nat.reduceEqDiff, reduceIte, Nat.reduceLeDiff, Nat.reduceMul, Nat.reduceSub, reduceCtorEq, frzRes, dFrz, frzCells, isRet_ret, tupleOf]
              all_goals rfl
            | false =>
              repeat' (first | refine goS ?_ | (apply U6; exact Z1; exact Z1; (focus (simp only [List.nil_append, List.append_nil]; first | exact k115 _)); simp only [pM, pN, rR, rP]) | refine go2 (fun hh => ?_) (fun hh => ?_) | fail)
              all_goals simp only [resV_def (X := dX c115) Tryz.func161, Tryz.results161, resultsV, resultV, go_sem, *, Nat.reduceLT, Int.reduceEq, Int.reduceBEq, Int.reduceLE, Int.reduceLT, Nat.reduceAdd, Nat.reduceBEq, Nat.reduceEqDiff, reduceIte, Nat.reduceLeDiff, Nat.reduceMul, Nat.reduceSub, reduceCtorEq, frzRes, dFrz, frzCells, isRet_ret, tupleOf]
              all_goals rfl
        · have hg4 : decide ((w.length : Int) > 4) = true := by simp; omega
          have hno : numI w = -1 := by
            rw [HI.out, num_def]
            have : decide (w.length ≤ 4) = false := by simpa using hl4
            rw [this]
            simp
          rw [hno]
          clear hno hem hl4
          refine ClR.walk (c := _) rfl Tryz.func161 rfl (by kernel_rfl) rfl isRet_fail ?_
          simp only [entryEnv, Nat.reduceAdd]
          repeat' (first | refine goS ?_ | refine go2 (fun hh => ?_) (fun hh => ?_) | fail)
          all_goals simp only [resV_def (X := dX c115) Tryz.func161, Tryz.results161, resultsV, resultV, go_sem, *, Nat.reduceLT, Int.reduceEq, Int.reduceBEq, Int.reduceLE, Int.reduceLT, Nat.reduceAdd, Nat.reduceBEq, Nat.reduceEqDiff, reduceIte, Nat.reduceLeDiff, Nat.reduceMul, Nat.reduceSub, reduceCtorEq, frzRes, dFrz, frzCells, isRet_ret, tupleOf]
    · cases h
  · cases h
theorem K161 {X : Ctx} (hX : X.intr 161 = some (pureFn sp161)) (w : List UInt8) (hw : w.length ≤ 1000) (h : Heap) : Cl X 161 [.str w] h (.ret (.int .i64 (numI w)) h none) :=
  Cl.intr hX (by simp only [pureFn, AV.purL, AV.pur, Bool.and_self, if_true, sp161, hw])
def numsV (ws : List (List UInt8)) : AV := match mapO numP ws with | some l => .tuple [slN (intsE l), .bool true] | none => .tuple [.nilslice, .bool false]
def sp117 : List AV → Option AV
  | [a] => match slV txtC a with
    | some ws => if (ws.all fun w => decide (w.length ≤ 1000)) = true then some (numsV ws) else none
    | none => none
  | _ => none
theorem p117 : ∀ args v, sp117 args = some v → v.pur = true := by
  intro args v h
  unfold sp117 at h
  split at h
  · split at h
    · split at h
      · cases h
        unfold numsV
        split
        · simp only [AV.pur, AV.purL, (slN_is _).pur (enc_pur intC _), intsE, Bool.and_self]
          rw [show (slN (List.map (AV.int IntKind.i64) _)).pur = true from (slN_is _).pur (enc_pur intC _)]
          rfl
        · rfl
      · cases h
    · cases h
  · cases h
noncomputable def c117 : FuncId → Option (List AV → Heap → Option (AV × Heap))
  | 161 => some (pureFn sp161)
  | _ => none
theorem c117_sound : Sound (dX c117) := dX_sound (fun f g h => by
  unfold c117 at h
  split at h
  · cases h; exact F161
  · cases h)
attribute [local irreducible] numI
theorem numI_some {w : List UInt8} {n : Int} (h : numP w = some n) : numI w = n ∧ decide (n < 0) = false := by
  have h1 := TX.num_is h
  refine ⟨by unfold numI; rw [h], ?_⟩
  have := h1.1
  unfold smallP at this
  simp only [Bool.and_eq_true, decide_eq_true_eq] at this
  simp; omega
theorem numI_none {w : List UInt8} (h : numP w = none) : numI w = -1 := by unfold numI; rw [h]
set_option maxHeartbeats 2000000 in
theorem F117 : IntrFn Tryz.prog 117 (pureFn sp117) := by
  refine pure_fn (X := dX c117) c117_sound p117 ?_
  intro args v h
  unfold sp117 at h
  split at h
  · rename_i a
    split at h
    · rename_i ws hl
      split at h
      · rename_i hg
        have h := Option.some.inj h
        subst h
        have hlen := sl_len hl
        have hout := sl_out hl
        have hmax := sl_max hl
        have HL := Lib.hid hl
        have HG := Lib.hid hg
        have hV : numsV ws = (match mapO numP ws with | some l => .tuple [slN (intsE l), .bool true] | none => .tuple [.nilslice, .bool false]) := rfl
        have HV := Lib.hid hV
        clear hl hg hV
        refine ClR.walk (c := _) rfl Tryz.func117 rfl (by kernel_rfl) rfl isRet_fail ?_
        simp only [entryEnv, Nat.reduceAdd, emptyHp]
        repeat' (first | refine goS ?_ | refine go2 (fun hh => ?_) (fun hh => ?_) | fail)
        refine W.loopV (ws.length) [0] [] (fun k e lm hp => ∃ u acc, e.get 5 = some (.int .i64 ↑k) ∧ e.get 4 = some (u) ∧ Blt hp u 1 (intsE acc) ∧ mapO numP (ws.take k) = some acc ∧ acc.length = k) ?_ ?_
        · skip
          refine ⟨.nilslice, [], ?_, ?_, Blt.nil, rfl, rfl⟩
          all_goals first | exact Z2 | simp [go_sem, *]
        intro k e lm hp hk0 hce hcl hinv
        simp only [keepE, and_true] at hce
        have c0 := hce
        clear hce
        simp only [go_sem, *, Nat.reduceLT, Int.reduceEq, Int.reduceBEq, Int.reduceLE, Int.reduceLT, Nat.reduceAdd, Nat.reduceBEq, Nat.reduceEqDiff, reduceIte, Nat.reduceLeDiff, Nat.reduceMul, Nat.reduceSub, reduceCtorEq] at c0
        clear hcl
        obtain ⟨u, acc, h5, h4, hB, hmo, hal⟩ := hinv
        by_cases hlt : k < ws.length
        · have hd0 : decide ((k : Int) < ((ws.length : Nat) : Int)) = true := by simpa using hlt
          have hv_0 := wrap_succ hlt hmax
          obtain ⟨w, hw⟩ := get_some hlt
          have hix := fun H => strs_idx HL.out hw H
          have hwl : w.length ≤ 1000 := by simpa using List.all_eq_true.1 HG.out w (List.mem_of_getElem? hw)
          have k161 := fun h => K161 (X := dX c117) rfl w hwl h
          have hbo := hB.out
          have HW := Lib.hid hw
          have HMO := Lib.hid hmo
          have HAL := Lib.hid hal
          have HLT0 := Lib.hid hlt
          clear hw hwl hmo hal hlt
          cases hn : numP w with
          | none =>
            have hno : numsV ws = .tuple [.nilslice, .bool false] := by
              rw [HV.out, mapO_none (List.mem_of_getElem? HW.out) hn]
            rw [numI_none hn] at k161
            rw [hno]
            have hd1 : decide ((-1 : Int) < 0) = true := rfl
            clear hn hno hB
            repeat' (first | refine goS ?_ | (apply U6; exact Z1; exact Z1; (focus (simp only [List.nil_append, List.append_nil]; first | exact k161 _)); simp only [pM, pN, rR, rP]) | refine go2 (fun hh => ?_) (fun hh => ?_) | fail)
            all_goals simp only [resV_def (X := dX c117) Tryz.func117, Tryz.results117, resultsV, resultV, go_sem, *, Nat.reduceLT, Int.reduceEq, Int.reduceBEq, Int.reduceLE, Int.reduceLT, Nat.reduceAdd, Nat.reduceBEq, Nat.reduceEqDiff, reduceIte, Nat.reduceLeDiff, Nat.reduceMul, Nat.reduceSub, reduceCtorEq, frzRes, dFrz, frzCells, isRet_ret, tupleOf]
            all_goals rfl
          | some n =>
            obtain ⟨e1, e2⟩ := numI_some hn
            rw [e1] at k161
            have hnx := mapO_next HW.out HMO.out hn
            have HNX := Lib.hid hnx
            have hll : (intsE acc).length + 1 ≤ most := by rw [intsE_len]; have := HAL.out; have := HLT0.out; unfold maxL at hmax; unfold most; omega
            clear hn hnx e1
            repeat' (first | (apply WO1.append (t := 24) (u := 24) (e := 3) (e' := 3) (sz := 1) (tl := []) (hb := hB); exact Z1; exact rfl; exact Z2; exact Z2; exact Z2; (focus (exact ty_row24)); exact Z1; (focus (intro v hv; simp at hv; subst hv; rfl)); (focus (simp only [List.length_map, List.length_cons, List.length_nil]; exact hll)); (focus (simp)); (intro v' h' hB' ho' hk'; simp only [pM, pN])) | refine go1 ?_ | (apply U6; exact Z1; exact Z1; (focus (simp only [List.nil_append, List.append_nil]; first | exact k161 _)); simp only [pM, pN, rR, rP]) | refine go2 (fun hh => ?_) (fun hh => ?_) | fail)
            all_goals refine contV_mk (by first | assumption | exact HLT0.out) (by simp only [keepE, and_true, and_self, go_sem, *, Nat.reduceLT, Int.reduceEq, Int.reduceBEq, Int.reduceLE, Int.reduceLT, Nat.reduceAdd, Nat.reduceBEq, Nat.reduceEqDiff, reduceIte, Nat.reduceLeDiff, Nat.reduceMul, Nat.reduceSub, reduceCtorEq]) (by simp only [keepL, and_true, and_self, go_sem, *, Nat.reduceLT, Int.reduceEq, Int.reduceBEq, Int.reduceLE, Int.reduceLT, Nat.reduceAdd, Nat.reduceBEq, Nat.reduceEqDiff, reduceIte, Nat.reduceLeDiff, Nat.reduceMul, Nat.reduceSub, reduceCtorEq]) ?_
            all_goals refine ⟨v', acc ++ [n], ?_, ?_, ?_, HNX.out, ?_⟩
            all_goals first | exact Z2 | skip
            · rw [intsE_app]; exact hB'
            · have := HAL.out; simp [this]
        · have hd0 : decide ((k : Int) < ((ws.length : Nat) : Int)) = false := by simpa using hlt
          obtain rfl : k = ws.length := by omega
          rw [List.take_length] at hmo
          have hv : numsV ws = .tuple [slN (intsE acc), .bool true] := by rw [HV.out, hmo]
          rw [hv]
          obtain ⟨h', hz, hz2, hz1⟩ := hB.freeze
          have hbo := hB.out
          clear hmo hv hB
          repeat' (first | refine goS ?_ | refine go2 (fun hh => ?_) (fun hh => ?_) | fail)
          all_goals simp only [resV_def (X := dX c117) Tryz.func117, Tryz.results117, resultsV, resultV, go_sem, *, Nat.reduceLT, Int.reduceEq, Int.reduceBEq, Int.reduceLE, Int.reduceLT, Nat.reduceAdd, Nat.reduceBEq, Nat.reduceEqDiff, reduceIte, Nat.reduceLeDiff, Nat.reduceMul, Nat.reduceSub, reduceCtorEq, frzRes, dFrz, frzCells, isRet_ret, tupleOf]
          all_goals rfl
      · cases h
    · cases h
  · cases h
theorem K117 {X : Ctx} (hX : X.intr 117 = some (pureFn sp117)) (a : AV) (ws : List (List UInt8)) (hl : slV txtC a = some ws) (hw : ∀ w ∈ ws, w.length ≤ 1000) (h : Heap) : Cl X 117 [a] h (.ret (numsV ws) h none) := by
  have : (ws.all fun w => decide (w.length ≤ 1000)) = true := List.all_eq_true.2 fun w h => by simpa using hw w h
  exact Cl.intr hX (by simp only [pureFn, AV.pur, AV.purL, sl_pur hl, Bool.and_self, if_true, sp117, hl, this])
end Go.AM
