/-
  A part of the proof: contracts of functions.
-/
import Derived.Test.YtkpbdjpekjdhcaaGreatDoorSAI
import Derived.Test.YtkpbdjpekjdhcaaGreatDoorSAG
set_option linter.unusedSectionVars false
set_option linter.unusedVariables false
set_option linter.unusedSimpArgs false
set_option maxRecDepth 100000
namespace Go.AM
open Go Go.Proofs
variable [Keep]
attribute [local irreducible] W WO WO1 WD WQ WT thenQ blockQ endR isRet retK Cl ClR
open Go.TX (Rm Fa Ha Hs textH smallH smallP numP mapO mapO_len rmOf faOf haOf stepQ readQ pick foldF wHouse wRoom wMake wWait wStart wFan wOpen wHand stepQ_small)
def rdV44 (s : List UInt8) : AV := match readQ s with | some m => .tuple [hsE m, .bool true] | none => .tuple [zeroH, .bool false]
def sp44 : List AV → Option AV
  | [.str s] => if decide (s.length ≤ 600) = true then some (rdV44 s) else none
  | _ => none
theorem p44 : ∀ args v, sp44 args = some v → v.pur = true := by
  intro args v h
  unfold sp44 at h
  split at h
  · split at h
    · cases h
      unfold rdV44
      split
      · simp only [AV.pur, AV.purL, hsE_pur, Bool.and_self]
      · rfl
    · cases h
  · cases h
theorem rq_none {s : List UInt8} (h : readQ s = none) : rdV44 s = .tuple [zeroH, .bool false] := by unfold rdV44; rw [h]
theorem rq_some {s : List UInt8} {m : Hs} (h : readQ s = some m) : rdV44 s = .tuple [hsE m, .bool true] := by unfold rdV44; rw [h]
def restQ (s : List UInt8) : List (List UInt8) := (spL 10 s).take ((spL 10 s).length - 2)
theorem readQ_is2 (s : List UInt8) : readQ s = match foldF stepQ ⟨0, [], [], [], []⟩ (restQ s) with
    | none => none
    | some h => if textH h = s then some h else none := by
  unfold readQ restQ TX.h0
  generalize foldF stepQ ⟨0, [], [], [], []⟩ ((spL 10 s).take ((spL 10 s).length - 2)) = o
  cases o <;> rfl
theorem stepQ_no {g : Hs} {l : List UInt8} (h : mapO numP (pick (spL 32 l)) = none) : stepQ g l = none := by unfold stepQ; rw [h]
theorem stepQ_yes {g : Hs} {l : List UInt8} {n : List Int} (h : mapO numP (pick (spL 32 l)) = some n) : stepQ g l =
    (if (spL 32 l).getD 0 [] = wHouse then (if n.length = 1 then some ⟨n.getD 0 0, g.rooms, g.fans, g.op, g.hands⟩ else none)
    else if (spL 32 l).getD 0 [] = wRoom then (if n.length = 5 then some ⟨g.hours, g.rooms ++ [rmOf n], g.fans, g.op, g.hands⟩ else none)
    else if (spL 32 l).getD 0 [] = wFan then (if n.length = 2 then some ⟨g.hours, g.rooms, g.fans ++ [faOf n], g.op, g.hands⟩ else none)
    else if (spL 32 l).getD 0 [] = wOpen then some ⟨g.hours, g.rooms, g.fans, n, g.hands⟩
    else if (spL 32 l).getD 0 [] = wHand then (if n.length = 2 then some ⟨g.hours, g.rooms, g.fans, g.op, g.hands ++ [haOf n]⟩ else none)
    else none) := by unfold stepQ; rw [h]
theorem nums_no {ws : List (List UInt8)} (h : mapO numP ws = none) : numsV ws = .tuple [.nilslice, .bool false] := by unfold numsV; rw [h]
theorem nums_yes {ws : List (List UInt8)} {n : List Int} (h : mapO numP ws = some n) : numsV ws = .tuple [slN (intsE n), .bool true] := by unfold numsV; rw [h]
theorem cut1 {l : List (List UInt8)} (h : 1 ≤ l.length) : ∀ H, sliceV Tryz.prog H 167 (.vslice (l.map AV.str)) (some (some (.int .i64 1))) none none = some (.vslice ((l.drop 1).map AV.str)) := by
  intro H
  have hh : headOk 1 (l.map AV.str) = true := by cases l <;> rfl
  have b1 : boundV none (l.map AV.str).length (l.map AV.str).length = some l.length := by simp [boundV]
  have b2 : boundV (some (some (.int .i64 1))) 0 l.length = some 1 := by
    simp only [boundV]
    rw [if_pos (by omega)]
    rfl
  simp only [sliceV, Tryz.underlying167, ty_lay9, lenS_vslice, boundsV, b1, b2, cutV, hh, Bool.false_eq_true, if_false, if_true]
  rw [List.take_of_length_le (by simp), List.map_drop]
theorem pick_9 {ws : List (List UInt8)} (h : ws.getD 0 [] = wRoom ∧ ws.length = 9) : pick ws = [ws.getD 1 [], ws.getD 2 [], ws.getD 4 [], ws.getD 6 [], ws.getD 8 []] := by unfold pick; rw [if_pos h]
theorem pick_o {ws : List (List UInt8)} (h : ¬ (ws.getD 0 [] = wRoom ∧ ws.length = 9)) : pick ws = ws.drop 1 := by unfold pick; rw [if_neg h]
theorem getD_some {α : Type} {l : List α} {k : Nat} {d : α} (h : k < l.length) : l[k]? = some (l.getD k d) := by simp [List.getD, h]
noncomputable def cZH : FuncId → Option (List AV → Heap → Option (AV × Heap))
  | 116 => some (pureFn sp116)
  | 117 => some (pureFn sp117)
  | 42 => some (flatFnD sp110)
  | _ => none
theorem cZH_sound : Sound (dX cZH) := dX_sound (fun f g h => by
  unfold cZH at h
  split at h
  · cases h; exact F116
  · cases h; exact F117
  · cases h; exact F42
  · cases h)
theorem slN_ne {l : List (List UInt8)} (h : l ≠ []) : slN (l.map AV.str) = .vslice (l.map AV.str) := by
  cases l with
  | nil => exact absurd rfl h
  | cons a r => rfl
attribute [local irreducible] readQ stepQ foldF textH restQ pick rdV44 numsV numP mapO
set_option maxHeartbeats 16000000 in
theorem F44 : IntrFn Tryz.prog 44 (pureFn sp44) := by
  refine pure_fn (X := dX cZH) cZH_sound p44 ?_
  intro args v h
  unfold sp44 at h
  split at h
  · rename_i s
    split at h
    · rename_i hs
      have h := Option.some.inj h
      subst h
      have hs : s.length ≤ 600 := by simpa using hs
      have k116 := fun h => K116 (X := dX cZH) rfl s 10 (n := 10) rfl (by omega) h
      obtain ⟨hl1, hl2⟩ := spL_len 10 s
      rw [slN_ne (spL_ne 10 s)] at k116
      have hls := strs_sl (spL 10 s) (by unfold maxL; omega)
      have hlen := sl_len hls
      have hout := sl_out hls
      have hrq := readQ_is2 s
      have hrn : (restQ s).length = (spL 10 s).length - 2 := by unfold restQ; rw [List.length_take]; omega
      have hrg : ∀ k, k < (restQ s).length → (spL 10 s)[k]? = (restQ s)[k]? := fun k hk => by
        unfold restQ
        rw [List.getElem?_take, if_pos (by omega)]
      have hw2 : IntKind.i64.wrap (((spL 10 s).length : Int) - 2) = ((spL 10 s).length : Int) - 2 := wrap_small (by omega) (by omega)
      have HN := Lib.hid (fun e => rq_none (s := s) e)
      have HY := Lib.hid (fun m e => rq_some (s := s) (m := m) e)
      generalize hva : AV.vslice ((spL 10 s).map AV.str) = va at *
      have HLS := Lib.hid hls
      have HRG := Lib.hid hrg
      have HL2 := Lib.hid hl2
      have HRQ := Lib.hid hrq
      generalize spL 10 s = ls at *
      have HRN := Lib.hid hrn
      have HL1 := Lib.hid hl1
      obtain ⟨LI, hLI⟩ : ∃ LI, LI = (ls.length : Int) - 2 := ⟨_, rfl⟩
      replace hw2 : IntKind.i64.wrap ((ls.length : Int) - 2) = LI := by rw [hLI]; exact hw2
      have HLI := Lib.hid hLI
      clear hls hrg hl2 hrq hrn hl1 hLI hva
      refine ClR.walk (c := _) rfl Tryz.func44 rfl (by kernel_rfl) rfl isRet_fail ?_
      simp only [entryEnv, Nat.reduceAdd, emptyHp]
      repeat' (first | refine goS ?_ | (apply U6; exact Z1; exact Z1; (focus (simp only [List.nil_append, List.append_nil]; first | exact k116 _)); simp only [pM, pN, rR, rP]) | refine go2 (fun hh => ?_) (fun hh => ?_) | fail)
      clear k116
      refine W.loopV ((restQ s).length) [0, 2, 4, 5] [] (fun k e lm hp => ∃ g u1 u2 u3 oa, e.get 6 = some (.int .i64 ↑k) ∧ lm.get 4 = some (0, [.int .i64 g.hours, u1, u2, oa, u3]) ∧ lm.get 2 = some (0, [.int .i64 0, .nilslice, .nilslice, .nilslice, .nilslice]) ∧ foldF stepQ ⟨0, [], [], [], []⟩ ((restQ s).take k) = some g ∧ smallH g = true ∧ Tri 0 hp u1 u2 u3 5 2 2 (g.rooms.map rmC.enc) (g.fans.map faC.enc) (g.hands.map haC.enc) ∧ slV intC oa = some g.op ∧ (g.rooms.length + g.fans.length + g.hands.length ≤ k ∧ g.op.length ≤ 600) ∧ oa = slN (intsE g.op)) ?_ ?_
      · skip
        refine ⟨⟨0, [], [], [], []⟩, .nilslice, .nilslice, .nilslice, .nilslice, ?_, ?_, ?_, ?_, rfl, Tri.nil, rfl, ⟨Nat.le_refl _, by simp⟩, rfl⟩
        all_goals first | exact Z2 | (simp [go_sem, *]; done) | skip
        unfold foldF
        simp
      intro k e lm hp hk0 hce hcl hinv
      simp only [keepE, and_true] at hce
      obtain ⟨c0, c2, c4, c5⟩ := hce
      simp only [go_sem, *, Nat.reduceLT, Int.reduceEq, Int.reduceBEq, Int.reduceLE, Int.reduceLT, Nat.reduceAdd, Nat.reduceBEq, Nat.reduceEqDiff, reduceIte, Nat.reduceLeDiff, Nat.reduceMul, Nat.reduceSub, reduceCtorEq] at c0 c2 c4 c5
      clear hcl
      obtain ⟨g, u1, u2, u3, oa, h6, g4, g2, hfo, hsm, hTr, hoa, hgl, hoaN⟩ := hinv
      by_cases hlt : k < (restQ s).length
      · have hd0 : decide ((k : Int) < (((restQ s).length : Nat) : Int)) = true := by simpa using hlt
        have hv_0 := wrap_succ hlt (by have := HRN.out; have := HL1.out; unfold maxL; omega)
        have hdx : decide ((k : Int) < LI) = true := by have := HRN.out; have := HLI.out; simp; omega
        have hB1 := hTr.b1
        have hB2 := hTr.b2
        have hB3 := hTr.b3
        obtain ⟨q1, q2, q3⟩ := hB1.parts
        obtain ⟨q4, q5, q6⟩ := hB2.parts
        obtain ⟨q7, q8, q9⟩ := hB3.parts
        have q10 := sl_out hoa
        have q11 := (slV_is hoa).1.cells
        have q12 := (slV_is hoa).1.tup
        simp only [AV.cells] at q2 q5 q8 q11
        simp only [isTuple] at q3 q6 q9 q12
        have HTR := Lib.hid hTr
        have HFO := Lib.hid hfo
        have HSM := Lib.hid hsm
        have HOA := Lib.hid hoa
        have HGL := Lib.hid hgl
        have HOAN := Lib.hid hoaN
        obtain ⟨l, hl⟩ := get_some hlt
        have hl0 := (HRG.out k hlt).trans hl
        have hlm := HL2.out l (List.mem_of_getElem? hl0)
        have hix := fun H => strs_idx HLS.out hl0 H
        have k116l := fun h => K116 (X := dX cZH) rfl l 32 (n := 32) rfl (by omega) h
        rw [slN_ne (spL_ne 32 l)] at k116l
        obtain ⟨hw1, hw3⟩ := spL_len 32 l
        have hws := strs_sl (spL 32 l) (by unfold maxL; omega)
        have hwlen := sl_len hws
        have hwout := sl_out hws
        have hwne : 1 ≤ (spL 32 l).length := by
          cases q : spL 32 l with
          | nil => exact absurd q (spL_ne 32 l)
          | cons a r => simp
        have hw0 : ∀ H, indexAddrV Tryz.prog H 167 (.vslice ((spL 32 l).map AV.str)) (.int .i64 0) = some (.vptr [.str ((spL 32 l).getD 0 [])]) := fun H => strs_idx hws (k := 0) (getD_some hwne) H
        have HL := Lib.hid hl
        have HLT0 := Lib.hid hlt
        have hkb : k ≤ 600 := by have := HRN.out; have := HL1.out; omega
        have HKB := Lib.hid hkb
        have hnone : stepQ g l = none → rdV44 s = .tuple [zeroH, .bool false] := fun e => HN.out (by rw [HRQ.out, fold_stop HL.out HFO.out e])
        have HNONE := Lib.hid hnone
        unfold zeroH at hnone
        have hlen9 : (((spL 32 l).length : Int) == 9) = decide ((spL 32 l).length = 9) := by rw [Bool.eq_iff_iff]; simp; omega
        have hsy := fun n => stepQ_yes (g := g) (l := l) (n := n)
        have hsn := stepQ_no (g := g) (l := l)
        clear hTr hfo hsm hoa hl hl0 hlt hgl hkb hnone hoaN
        by_cases h9 : (spL 32 l).getD 0 [] = wRoom ∧ (spL 32 l).length = 9
        · have hp := pick_9 h9
          have j1 : ∀ H, indexAddrV Tryz.prog H 167 (.vslice ((spL 32 l).map AV.str)) (.int .i64 1) = some (.vptr [.str ((spL 32 l).getD 1 [])]) := fun H => strs_idx hws (k := 1) (getD_some (by omega)) H
          have j2 : ∀ H, indexAddrV Tryz.prog H 167 (.vslice ((spL 32 l).map AV.str)) (.int .i64 2) = some (.vptr [.str ((spL 32 l).getD 2 [])]) := fun H => strs_idx hws (k := 2) (getD_some (by omega)) H
          have j4 : ∀ H, indexAddrV Tryz.prog H 167 (.vslice ((spL 32 l).map AV.str)) (.int .i64 4) = some (.vptr [.str ((spL 32 l).getD 4 [])]) := fun H => strs_idx hws (k := 4) (getD_some (by omega)) H
          have j6 : ∀ H, indexAddrV Tryz.prog H 167 (.vslice ((spL 32 l).map AV.str)) (.int .i64 6) = some (.vptr [.str ((spL 32 l).getD 6 [])]) := fun H => strs_idx hws (k := 6) (getD_some (by omega)) H
          have j8 : ∀ H, indexAddrV Tryz.prog H 167 (.vslice ((spL 32 l).map AV.str)) (.int .i64 8) = some (.vptr [.str ((spL 32 l).getD 8 [])]) := fun H => strs_idx hws (k := 8) (getD_some (by omega)) H
          have m1 := hw3 _ (List.mem_of_getElem? (getD_some (l := spL 32 l) (k := 1) (d := []) (by omega)))
          have m2 := hw3 _ (List.mem_of_getElem? (getD_some (l := spL 32 l) (k := 2) (d := []) (by omega)))
          have m4 := hw3 _ (List.mem_of_getElem? (getD_some (l := spL 32 l) (k := 4) (d := []) (by omega)))
          have m6 := hw3 _ (List.mem_of_getElem? (getD_some (l := spL 32 l) (k := 6) (d := []) (by omega)))
          have m8 := hw3 _ (List.mem_of_getElem? (getD_some (l := spL 32 l) (k := 8) (d := []) (by omega)))
          rw [hp] at hsy hsn
          obtain ⟨e0, e9⟩ := h9
          rw [e0] at hw0 hsy
          have h9q : decide ((spL 32 l).length = 9) = true := by simpa using e9
          rw [h9q] at hlen9
          generalize (spL 32 l).getD 1 [] = a1 at *
          generalize (spL 32 l).getD 2 [] = a2 at *
          generalize (spL 32 l).getD 4 [] = a4 at *
          generalize (spL 32 l).getD 6 [] = a6 at *
          generalize (spL 32 l).getD 8 [] = a8 at *
          generalize AV.vslice ((spL 32 l).map AV.str) = vw at *
          have hcs := strs_sl [[114, 111, 111, 109], a1, a2, a4, a6, a8] (by unfold maxL; simp)
          have hclen := sl_len hcs
          have hcout := sl_out hcs
          have hc0 : ∀ H, indexAddrV Tryz.prog H 167 (.vslice ([[114, 111, 111, 109], a1, a2, a4, a6, a8].map AV.str)) (.int .i64 0) = some (.vptr [.str [114, 111, 111, 109]]) := fun H => strs_idx hcs (k := 0) rfl H
          have hct := cut1 (l := [[114, 111, 111, 109], a1, a2, a4, a6, a8]) (by simp)
          have k117 := fun h => K117 (X := dX cZH) rfl (.vslice ([a1, a2, a4, a6, a8].map AV.str)) [a1, a2, a4, a6, a8] (strs_sl [a1, a2, a4, a6, a8] (by unfold maxL; simp)) (by intro w hw; simp at hw; rcases hw with rfl | rfl | rfl | rfl | rfl <;> omega) h
          simp only [List.drop_succ_cons, List.drop_zero] at hct
          simp only [List.map_cons, List.map_nil] at hct hcout hclen hc0 k117
          have hwq0 : (wRoom == ([114, 111, 111, 109] : List UInt8)) = true := rfl
          have hwq1 : (([114, 111, 111, 109] : List UInt8) == [104, 111, 117, 115, 101]) = false := rfl
          have hwq2 : (([114, 111, 111, 109] : List UInt8) == [114, 111, 111, 109]) = true := rfl
          clear hp hws hcs e0 e9 h9q hw3 hw1 hwne m1 m2 m4 m6 m8 hlm
          have hvo : outV (some (AV.vslice [AV.str a1, AV.str a2, AV.str a4, AV.str a6, AV.str a8])) = some (AV.vslice [AV.str a1, AV.str a2, AV.str a4, AV.str a6, AV.str a8]) := rfl
          generalize hvc : AV.vslice [AV.str a1, AV.str a2, AV.str a4, AV.str a6, AV.str a8] = vcut at *
          have HVC := Lib.hid hvc
          clear hvc
          cases hm : mapO numP [a1, a2, a4, a6, a8] with
          | none =>
            rw [nums_no hm] at k117
            have hrv := HNONE.out (hsn hm)
            unfold zeroH at hrv
            rw [hrv]
            clear hm hsn hsy hrv hB1 hB2 hB3
            repeat' (first | (apply W.drawQ (id := 8) (l1 := [0, 1, 2, 3, 4, 5, 6, 7, 8, 9, 10, 11, 12, 13, 14, 15, 16]) (l2 := []); kernel_rfl; kernel_rfl; kernel_rfl; exact Z4) | (apply W.drawQ (id := 21) (l1 := [0, 1, 2, 3, 4, 5, 6, 7, 8, 9, 10, 11, 12, 13, 14, 15, 16, 17, 18, 19]) (l2 := [20, 21, 22]); kernel_rfl; kernel_rfl; kernel_rfl; exact Z4) | (apply W.drawQ (id := 25) (l1 := [0, 1, 2, 3, 4, 5, 6, 7, 8, 9]) (l2 := [10, 11, 12]); kernel_rfl; kernel_rfl; kernel_rfl; exact Z4) | (apply W.drawQ (id := 31) (l1 := [0, 1, 2, 3, 4, 5, 6, 7, 8, 9]) (l2 := [10, 11, 12]); kernel_rfl; kernel_rfl; kernel_rfl; exact Z4) | (apply U4 (v := vcut); (focus (simp only [go_sem, *, Nat.reduceLT, Int.reduceEq, Int.reduceBEq, Int.reduceLE, Int.reduceLT, Nat.reduceAdd, Nat.reduceBEq, Nat.reduceEqDiff, reduceIte, Nat.reduceLeDiff, Nat.reduceMul, Nat.reduceSub, reduceCtorEq, Option.map_none, Option.map_some]; done)); exact rfl; simp only [pM, pN, rR, rP]) | refine go1 ?_ | (apply U6; exact Z1; exact Z1; (focus (simp only [List.nil_append, List.append_nil]; first | exact k116l _ | exact k117 _)); simp only [pM, pN, rR, rP]) | refine go2 (fun hh => ?_) (fun hh => ?_) | fail)
            all_goals simp only [resV_def (X := dX cZH) Tryz.func44, Tryz.results44, resultsV, resultV, go_sem, *, Nat.reduceLT, Int.reduceEq, Int.reduceBEq, Int.reduceLE, Int.reduceLT, Nat.reduceAdd, Nat.reduceBEq, Nat.reduceEqDiff, reduceIte, Nat.reduceLeDiff, Nat.reduceMul, Nat.reduceSub, reduceCtorEq, frzRes, dFrz, frzCells, isRet_ret, tupleOf]
          | some ns =>
            rw [nums_yes hm] at k117
            have hnl : ns.length = 5 := (mapO_len hm).trans rfl
            have hst := hsy ns hm
            rw [if_neg (by decide), if_pos rfl, if_pos hnl] at hst
            clear hm hsn hsy
            obtain ⟨a0, b1, b2, b3, b4, rfl⟩ := nums_5 hnl
            have hisl := ints_sl [a0, b1, b2, b3, b4] (by unfold maxL; simp)
            have i0 : ∀ H, indexAddrV Tryz.prog H 24 (slN (intsE [a0, b1, b2, b3, b4])) (.int .i64 0) = some (.vptr [.int .i64 a0]) := fun H => ints_idx hisl (k := 0) rfl H
            have i1 : ∀ H, indexAddrV Tryz.prog H 24 (slN (intsE [a0, b1, b2, b3, b4])) (.int .i64 1) = some (.vptr [.int .i64 b1]) := fun H => ints_idx hisl (k := 1) rfl H
            have i2 : ∀ H, indexAddrV Tryz.prog H 24 (slN (intsE [a0, b1, b2, b3, b4])) (.int .i64 2) = some (.vptr [.int .i64 b2]) := fun H => ints_idx hisl (k := 2) rfl H
            have i3 : ∀ H, indexAddrV Tryz.prog H 24 (slN (intsE [a0, b1, b2, b3, b4])) (.int .i64 3) = some (.vptr [.int .i64 b3]) := fun H => ints_idx hisl (k := 3) rfl H
            have i4 : ∀ H, indexAddrV Tryz.prog H 24 (slN (intsE [a0, b1, b2, b3, b4])) (.int .i64 4) = some (.vptr [.int .i64 b4]) := fun H => ints_idx hisl (k := 4) rfl H
            have hison := sl_out hisl
            have hislen := sl_len hisl
            have hnq : ((([a0, b1, b2, b3, b4] : List Int).length : Int) != 5) = false := rfl
            have hnq' : ((5 : Int) != 5) = false := rfl
            have hnq'' : (((5 : Nat) : Int) != 5) = false := rfl
            have hst : stepQ g l = some ⟨g.hours, g.rooms ++ [⟨a0, b1, b2, b3, b4⟩], g.fans, g.op, g.hands⟩ := hst
            have HFN := Lib.hid (fold_next HL.out HFO.out hst)
            have HSN := Lib.hid (stepQ_small HSM.out hst)
            have hll : g.rooms.length + 1 ≤ most := by have := HGL.out; have := HKB.out; unfold most; omega
            clear hst hisl hB2 hB3
            generalize slN (intsE [a0, b1, b2, b3, b4]) = van2 at *
            repeat' (first | (apply W.drawQ (id := 8) (l1 := [0, 1, 2, 3, 4, 5, 6, 7, 8, 9, 10, 11, 12, 13, 14, 15, 16]) (l2 := []); kernel_rfl; kernel_rfl; kernel_rfl; exact Z4) | (apply W.drawQ (id := 21) (l1 := [0, 1, 2, 3, 4, 5, 6, 7, 8, 9, 10, 11, 12, 13, 14, 15, 16, 17, 18, 19]) (l2 := [20, 21, 22]); kernel_rfl; kernel_rfl; kernel_rfl; exact Z4) | (apply W.drawQ (id := 25) (l1 := [0, 1, 2, 3, 4, 5, 6, 7, 8, 9]) (l2 := [10, 11, 12]); kernel_rfl; kernel_rfl; kernel_rfl; exact Z4) | (apply W.drawQ (id := 31) (l1 := [0, 1, 2, 3, 4, 5, 6, 7, 8, 9]) (l2 := [10, 11, 12]); kernel_rfl; kernel_rfl; kernel_rfl; exact Z4) | (apply U4 (v := vcut); (focus (simp only [go_sem, *, Nat.reduceLT, Int.reduceEq, Int.reduceBEq, Int.reduceLE, Int.reduceLT, Nat.reduceAdd, Nat.reduceBEq, Nat.reduceEqDiff, reduceIte, Nat.reduceLeDiff, Nat.reduceMul, Nat.reduceSub, reduceCtorEq, Option.map_none, Option.map_some]; done)); exact rfl; simp only [pM, pN, rR, rP]) | (apply WO1.appendX (t := 22) (u := 22) (e := 136) (e' := 136) (sz := 5) (tl := []) (b := 0) (h0 := ⟨0, .nil⟩) (hb := hB1) (hx := ⟨Nat.zero_le _, fun id h => absurd h (Nat.not_lt_zero id)⟩); exact Z1; exact rfl; exact Z2; exact Z2; exact Z2; (focus (exact ty_row22)); exact Z1; (focus (intro v hv; simp at hv; subst hv; rfl)); (focus (simp only [List.length_map, List.length_cons, List.length_nil]; exact hll)); (focus (simp)); (intro v' h' hB' ho' hK' hE' hX'; have hcc' := hB'.blt.cells; have htt' := hB'.blt.tup; simp only [AV.cells] at hcc'; simp only [isTuple] at htt'; simp only [pM, pN])) | refine go1 ?_ | (apply U6; exact Z1; exact Z1; (focus (simp only [List.nil_append, List.append_nil]; first | exact k116l _ | exact k117 _)); simp only [pM, pN, rR, rP]) | refine go2 (fun hh => ?_) (fun hh => ?_) | fail)
            all_goals refine contV_mk (by first | assumption | exact HLT0.out) (by simp only [keepE, and_true, and_self, go_sem, *, Nat.reduceLT, Int.reduceEq, Int.reduceBEq, Int.reduceLE, Int.reduceLT, Nat.reduceAdd, Nat.reduceBEq, Nat.reduceEqDiff, reduceIte, Nat.reduceLeDiff, Nat.reduceMul, Nat.reduceSub, reduceCtorEq]) (by simp only [keepL, and_true, and_self, go_sem, *, Nat.reduceLT, Int.reduceEq, Int.reduceBEq, Int.reduceLE, Int.reduceLT, Nat.reduceAdd, Nat.reduceBEq, Nat.reduceEqDiff, reduceIte, Nat.reduceLeDiff, Nat.reduceMul, Nat.reduceSub, reduceCtorEq]) ?_
            all_goals refine ⟨⟨g.hours, g.rooms ++ [⟨a0, b1, b2, b3, b4⟩], g.fans, g.op, g.hands⟩, v', u2, u3, oa, ?_, ?_, ?_, HFN.out, HSN.out, ?_, HOA.out, ?_, HOAN.out⟩
            all_goals first | exact Z2 | skip
            · have := HTR.out.one hB' hK' hE'
              rw [List.map_append]
              exact this
            · have := HGL.out
              simp only [List.length_append, List.length_cons, List.length_nil]
              omega
        · have hp := pick_o h9
          rw [hp] at hsy hsn
          have hct := cut1 (l := spL 32 l) hwne
          have k117 := fun h => K117 (X := dX cZH) rfl (.vslice (((spL 32 l).drop 1).map AV.str)) ((spL 32 l).drop 1) (strs_sl _ (by rw [List.length_drop]; unfold maxL; omega)) (fun w hw => by have := hw3 w (List.mem_of_mem_drop hw); omega) h
          have hdl : ((spL 32 l).drop 1).length ≤ 600 := by rw [List.length_drop]; omega
          have HDL := Lib.hid hdl
          have h9c : ((spL 32 l).getD 0 [] = wRoom ∧ (((spL 32 l).length : Int) == 9) = false) ∨ (spL 32 l).getD 0 [] ≠ wRoom := by
            by_cases e : (spL 32 l).getD 0 [] = wRoom
            · exact .inl ⟨e, by rw [hlen9]; simp; exact fun q => h9 ⟨e, q⟩⟩
            · exact .inr e
          clear hp hws hw3 hw1 hwne hlm h9 hlen9 hdl
          generalize (spL 32 l).getD 0 [] = w0 at *
          have hvo : outV (some (AV.vslice (((spL 32 l).drop 1).map AV.str))) = some (AV.vslice (((spL 32 l).drop 1).map AV.str)) := rfl
          generalize AV.vslice (((spL 32 l).drop 1).map AV.str) = vcut at *
          generalize (spL 32 l).drop 1 = wd at *
          generalize (spL 32 l).length = wl' at *
          generalize AV.vslice ((spL 32 l).map AV.str) = vw at *
          cases hm : mapO numP wd with
          | none =>
            rw [nums_no hm] at k117
            have hrv := HNONE.out (hsn hm)
            unfold zeroH at hrv
            rw [hrv]
            clear hm hsn hsy hrv hB1 hB2 hB3
            rcases h9c with ⟨rfl, h9q⟩ | h9q
            · have hwq0 : (wRoom == ([114, 111, 111, 109] : List UInt8)) = true := rfl
              repeat' (first | (apply W.drawQ (id := 8) (l1 := [0, 1, 2, 3, 4, 5, 6, 7, 8, 9, 10, 11, 12, 13, 14, 15, 16]) (l2 := []); kernel_rfl; kernel_rfl; kernel_rfl; exact Z4) | (apply W.drawQ (id := 21) (l1 := [0, 1, 2, 3, 4, 5, 6, 7, 8, 9, 10, 11, 12, 13, 14, 15, 16, 17, 18, 19]) (l2 := [20, 21, 22]); kernel_rfl; kernel_rfl; kernel_rfl; exact Z4) | (apply W.drawQ (id := 25) (l1 := [0, 1, 2, 3, 4, 5, 6, 7, 8, 9]) (l2 := [10, 11, 12]); kernel_rfl; kernel_rfl; kernel_rfl; exact Z4) | (apply W.drawQ (id := 31) (l1 := [0, 1, 2, 3, 4, 5, 6, 7, 8, 9]) (l2 := [10, 11, 12]); kernel_rfl; kernel_rfl; kernel_rfl; exact Z4) | (apply U4 (v := vcut); (focus (simp only [go_sem, *, Nat.reduceLT, Int.reduceEq, Int.reduceBEq, Int.reduceLE, Int.reduceLT, Nat.reduceAdd, Nat.reduceBEq, Nat.reduceEqDiff, reduceIte, Nat.reduceLeDiff, Nat.reduceMul, Nat.reduceSub, reduceCtorEq, Option.map_none, Option.map_some]; done)); exact rfl; simp only [pM, pN, rR, rP]) | refine go1 ?_ | (apply U6; exact Z1; exact Z1; (focus (simp only [List.nil_append, List.append_nil]; first | exact k116l _ | exact k117 _)); simp only [pM, pN, rR, rP]) | refine go2 (fun hh => ?_) (fun hh => ?_) | fail)
              all_goals simp only [resV_def (X := dX cZH) Tryz.func44, Tryz.results44, resultsV, resultV, go_sem, *, Nat.reduceLT, Int.reduceEq, Int.reduceBEq, Int.reduceLE, Int.reduceLT, Nat.reduceAdd, Nat.reduceBEq, Nat.reduceEqDiff, reduceIte, Nat.reduceLeDiff, Nat.reduceMul, Nat.reduceSub, reduceCtorEq, frzRes, dFrz, frzCells, isRet_ret, tupleOf]
            · have hwq0 : (w0 == ([114, 111, 111, 109] : List UInt8)) = false := by rw [beq_eq_false_iff_ne]; exact h9q
              clear h9q
              repeat' (first | (apply W.drawQ (id := 8) (l1 := [0, 1, 2, 3, 4, 5, 6, 7, 8, 9, 10, 11, 12, 13, 14, 15, 16]) (l2 := []); kernel_rfl; kernel_rfl; kernel_rfl; exact Z4) | (apply W.drawQ (id := 21) (l1 := [0, 1, 2, 3, 4, 5, 6, 7, 8, 9, 10, 11, 12, 13, 14, 15, 16, 17, 18, 19]) (l2 := [20, 21, 22]); kernel_rfl; kernel_rfl; kernel_rfl; exact Z4) | (apply W.drawQ (id := 25) (l1 := [0, 1, 2, 3, 4, 5, 6, 7, 8, 9]) (l2 := [10, 11, 12]); kernel_rfl; kernel_rfl; kernel_rfl; exact Z4) | (apply W.drawQ (id := 31) (l1 := [0, 1, 2, 3, 4, 5, 6, 7, 8, 9]) (l2 := [10, 11, 12]); kernel_rfl; kernel_rfl; kernel_rfl; exact Z4) | (apply U4 (v := vcut); (focus (simp only [go_sem, *, Nat.reduceLT, Int.reduceEq, Int.reduceBEq, Int.reduceLE, Int.reduceLT, Nat.reduceAdd, Nat.reduceBEq, Nat.reduceEqDiff, reduceIte, Nat.reduceLeDiff, Nat.reduceMul, Nat.reduceSub, reduceCtorEq, Option.map_none, Option.map_some]; done)); exact rfl; simp only [pM, pN, rR, rP]) | refine go1 ?_ | (apply U6; exact Z1; exact Z1; (focus (simp only [List.nil_append, List.append_nil]; first | exact k116l _ | exact k117 _)); simp only [pM, pN, rR, rP]) | refine go2 (fun hh => ?_) (fun hh => ?_) | fail)
              all_goals simp only [resV_def (X := dX cZH) Tryz.func44, Tryz.results44, resultsV, resultV, go_sem, *, Nat.reduceLT, Int.reduceEq, Int.reduceBEq, Int.reduceLE, Int.reduceLT, Nat.reduceAdd, Nat.reduceBEq, Nat.reduceEqDiff, reduceIte, Nat.reduceLeDiff, Nat.reduceMul, Nat.reduceSub, reduceCtorEq, frzRes, dFrz, frzCells, isRet_ret, tupleOf]
          | some ns =>
            rw [nums_yes hm] at k117
            have hst := hsy ns hm
            have hml := mapO_len hm
            have hnb : ns.length ≤ 600 := by have := HDL.out; omega
            have HNB := Lib.hid hnb
            clear hm hsn hsy hml hnb
            by_cases x1 : w0 = wHouse
            · rw [if_pos x1] at hst
              subst x1
              have hwq0 : (wHouse == ([114, 111, 111, 109] : List UInt8)) = false := rfl
              have hwq1 : (wHouse == ([104, 111, 117, 115, 101] : List UInt8)) = true := rfl
              clear h9c
              by_cases hnl : ns.length = 1
              · rw [if_pos hnl] at hst
                obtain ⟨a0, rfl⟩ := nums_1 hnl
                have hisl := ints_sl [a0] (by unfold maxL; simp)
                have i0 : ∀ H, indexAddrV Tryz.prog H 24 (slN (intsE [a0])) (.int .i64 0) = some (.vptr [.int .i64 a0]) := fun H => ints_idx hisl (k := 0) rfl H
                have hison := sl_out hisl
                have hislen := sl_len hisl
                have hnq : ((([a0] : List Int).length : Int) != 1) = false := rfl
                have hnq' : ((1 : Int) != 1) = false := rfl
                have hnq'' : (((1 : Nat) : Int) != 1) = false := rfl
                have hst : stepQ g l = some ⟨a0, g.rooms, g.fans, g.op, g.hands⟩ := hst
                have HFN := Lib.hid (fold_next HL.out HFO.out hst)
                have HSN := Lib.hid (stepQ_small HSM.out hst)
                clear hst hisl hB1 hB2 hB3
                generalize slN (intsE [a0]) = van2 at *
                repeat' (first | (apply W.drawQ (id := 8) (l1 := [0, 1, 2, 3, 4, 5, 6, 7, 8, 9, 10, 11, 12, 13, 14, 15, 16]) (l2 := []); kernel_rfl; kernel_rfl; kernel_rfl; exact Z4) | (apply W.drawQ (id := 21) (l1 := [0, 1, 2, 3, 4, 5, 6, 7, 8, 9, 10, 11, 12, 13, 14, 15, 16, 17, 18, 19]) (l2 := [20, 21, 22]); kernel_rfl; kernel_rfl; kernel_rfl; exact Z4) | (apply W.drawQ (id := 25) (l1 := [0, 1, 2, 3, 4, 5, 6, 7, 8, 9]) (l2 := [10, 11, 12]); kernel_rfl; kernel_rfl; kernel_rfl; exact Z4) | (apply W.drawQ (id := 31) (l1 := [0, 1, 2, 3, 4, 5, 6, 7, 8, 9]) (l2 := [10, 11, 12]); kernel_rfl; kernel_rfl; kernel_rfl; exact Z4) | (apply U4 (v := vcut); (focus (simp only [go_sem, *, Nat.reduceLT, Int.reduceEq, Int.reduceBEq, Int.reduceLE, Int.reduceLT, Nat.reduceAdd, Nat.reduceBEq, Nat.reduceEqDiff, reduceIte, Nat.reduceLeDiff, Nat.reduceMul, Nat.reduceSub, reduceCtorEq, Option.map_none, Option.map_some]; done)); exact rfl; simp only [pM, pN, rR, rP]) | refine go1 ?_ | (apply U6; exact Z1; exact Z1; (focus (simp only [List.nil_append, List.append_nil]; first | exact k116l _ | exact k117 _)); simp only [pM, pN, rR, rP]) | refine go2 (fun hh => ?_) (fun hh => ?_) | fail)
                all_goals refine contV_mk (by first | assumption | exact HLT0.out) (by simp only [keepE, and_true, and_self, go_sem, *, Nat.reduceLT, Int.reduceEq, Int.reduceBEq, Int.reduceLE, Int.reduceLT, Nat.reduceAdd, Nat.reduceBEq, Nat.reduceEqDiff, reduceIte, Nat.reduceLeDiff, Nat.reduceMul, Nat.reduceSub, reduceCtorEq]) (by simp only [keepL, and_true, and_self, go_sem, *, Nat.reduceLT, Int.reduceEq, Int.reduceBEq, Int.reduceLE, Int.reduceLT, Nat.reduceAdd, Nat.reduceBEq, Nat.reduceEqDiff, reduceIte, Nat.reduceLeDiff, Nat.reduceMul, Nat.reduceSub, reduceCtorEq]) ?_
                all_goals refine ⟨⟨a0, g.rooms, g.fans, g.op, g.hands⟩, u1, u2, u3, oa, ?_, ?_, ?_, HFN.out, HSN.out, HTR.out, HOA.out, ?_, HOAN.out⟩
                all_goals first | exact Z2 | skip
                have := HGL.out
                simp only
                omega
              · rw [if_neg hnl] at hst
                have hnq : ((ns.length : Int) != 1) = true := by simp; omega
                have hisl := ints_sl ns (by have := HNB.out; unfold maxL; omega)
                have hison := sl_out hisl
                have hislen := sl_len hisl
                have hrv := HNONE.out hst
                unfold zeroH at hrv
                rw [hrv]
                clear hst hrv hB1 hB2 hB3 hnl hisl
                generalize slN (intsE ns) = van2 at *
                repeat' (first | (apply W.drawQ (id := 8) (l1 := [0, 1, 2, 3, 4, 5, 6, 7, 8, 9, 10, 11, 12, 13, 14, 15, 16]) (l2 := []); kernel_rfl; kernel_rfl; kernel_rfl; exact Z4) | (apply W.drawQ (id := 21) (l1 := [0, 1, 2, 3, 4, 5, 6, 7, 8, 9, 10, 11, 12, 13, 14, 15, 16, 17, 18, 19]) (l2 := [20, 21, 22]); kernel_rfl; kernel_rfl; kernel_rfl; exact Z4) | (apply W.drawQ (id := 25) (l1 := [0, 1, 2, 3, 4, 5, 6, 7, 8, 9]) (l2 := [10, 11, 12]); kernel_rfl; kernel_rfl; kernel_rfl; exact Z4) | (apply W.drawQ (id := 31) (l1 := [0, 1, 2, 3, 4, 5, 6, 7, 8, 9]) (l2 := [10, 11, 12]); kernel_rfl; kernel_rfl; kernel_rfl; exact Z4) | (apply U4 (v := vcut); (focus (simp only [go_sem, *, Nat.reduceLT, Int.reduceEq, Int.reduceBEq, Int.reduceLE, Int.reduceLT, Nat.reduceAdd, Nat.reduceBEq, Nat.reduceEqDiff, reduceIte, Nat.reduceLeDiff, Nat.reduceMul, Nat.reduceSub, reduceCtorEq, Option.map_none, Option.map_some]; done)); exact rfl; simp only [pM, pN, rR, rP]) | refine go1 ?_ | (apply U6; exact Z1; exact Z1; (focus (simp only [List.nil_append, List.append_nil]; first | exact k116l _ | exact k117 _)); simp only [pM, pN, rR, rP]) | refine go2 (fun hh => ?_) (fun hh => ?_) | fail)
                all_goals simp only [resV_def (X := dX cZH) Tryz.func44, Tryz.results44, resultsV, resultV, go_sem, *, Nat.reduceLT, Int.reduceEq, Int.reduceBEq, Int.reduceLE, Int.reduceLT, Nat.reduceAdd, Nat.reduceBEq, Nat.reduceEqDiff, reduceIte, Nat.reduceLeDiff, Nat.reduceMul, Nat.reduceSub, reduceCtorEq, frzRes, dFrz, frzCells, isRet_ret, tupleOf]
            · have hwq1 : (w0 == ([104, 111, 117, 115, 101] : List UInt8)) = false := by rw [beq_eq_false_iff_ne]; exact x1
              rw [if_neg x1] at hst
              by_cases x2 : w0 = wRoom
              · rw [if_pos x2] at hst
                subst x2
                have hwq0 : (wRoom == ([114, 111, 111, 109] : List UInt8)) = true := rfl
                have h9q : ((wl' : Int) == 9) = false := by rcases h9c with ⟨_, q⟩ | q; exact q; exact absurd rfl q
                clear h9c x1
                by_cases hnl : ns.length = 5
                · rw [if_pos hnl] at hst
                  obtain ⟨a0, b1, b2, b3, b4, rfl⟩ := nums_5 hnl
                  have hisl := ints_sl [a0, b1, b2, b3, b4] (by unfold maxL; simp)
                  have i0 : ∀ H, indexAddrV Tryz.prog H 24 (slN (intsE [a0, b1, b2, b3, b4])) (.int .i64 0) = some (.vptr [.int .i64 a0]) := fun H => ints_idx hisl (k := 0) rfl H
                  have i1 : ∀ H, indexAddrV Tryz.prog H 24 (slN (intsE [a0, b1, b2, b3, b4])) (.int .i64 1) = some (.vptr [.int .i64 b1]) := fun H => ints_idx hisl (k := 1) rfl H
                  have i2 : ∀ H, indexAddrV Tryz.prog H 24 (slN (intsE [a0, b1, b2, b3, b4])) (.int .i64 2) = some (.vptr [.int .i64 b2]) := fun H => ints_idx hisl (k := 2) rfl H
                  have i3 : ∀ H, indexAddrV Tryz.prog H 24 (slN (intsE [a0, b1, b2, b3, b4])) (.int .i64 3) = some (.vptr [.int .i64 b3]) := fun H => ints_idx hisl (k := 3) rfl H
                  have i4 : ∀ H, indexAddrV Tryz.prog H 24 (slN (intsE [a0, b1, b2, b3, b4])) (.int .i64 4) = some (.vptr [.int .i64 b4]) := fun H => ints_idx hisl (k := 4) rfl H
                  have hison := sl_out hisl
                  have hislen := sl_len hisl
                  have hnq : ((([a0, b1, b2, b3, b4] : List Int).length : Int) != 5) = false := rfl
                  have hnq' : ((5 : Int) != 5) = false := rfl
                  have hnq'' : (((5 : Nat) : Int) != 5) = false := rfl
                  have hst : stepQ g l = some ⟨g.hours, g.rooms ++ [⟨a0, b1, b2, b3, b4⟩], g.fans, g.op, g.hands⟩ := hst
                  have HFN := Lib.hid (fold_next HL.out HFO.out hst)
                  have HSN := Lib.hid (stepQ_small HSM.out hst)
                  have hll : g.rooms.length + 1 ≤ most := by have := HGL.out; have := HKB.out; unfold most; omega
                  clear hst hisl hB2 hB3
                  generalize slN (intsE [a0, b1, b2, b3, b4]) = van2 at *
                  repeat' (first | (apply W.drawQ (id := 8) (l1 := [0, 1, 2, 3, 4, 5, 6, 7, 8, 9, 10, 11, 12, 13, 14, 15, 16]) (l2 := []); kernel_rfl; kernel_rfl; kernel_rfl; exact Z4) | (apply W.drawQ (id := 21) (l1 := [0, 1, 2, 3, 4, 5, 6, 7, 8, 9, 10, 11, 12, 13, 14, 15, 16, 17, 18, 19]) (l2 := [20, 21, 22]); kernel_rfl; kernel_rfl; kernel_rfl; exact Z4) | (apply W.drawQ (id := 25) (l1 := [0, 1, 2, 3, 4, 5, 6, 7, 8, 9]) (l2 := [10, 11, 12]); kernel_rfl; kernel_rfl; kernel_rfl; exact Z4) | (apply W.drawQ (id := 31) (l1 := [0, 1, 2, 3, 4, 5, 6, 7, 8, 9]) (l2 := [10, 11, 12]); kernel_rfl; kernel_rfl; kernel_rfl; exact Z4) | (apply U4 (v := vcut); (focus (simp only [go_sem, *, Nat.reduceLT, Int.reduceEq, Int.reduceBEq, Int.reduceLE, Int.reduceLT, Nat.reduceAdd, Nat.reduceBEq, Nat.reduceEqDiff, reduceIte, Nat.reduceLeDiff, Nat.reduceMul, Nat.reduceSub, reduceCtorEq, Option.map_none, Option.map_some]; done)); exact rfl; simp only [pM, pN, rR, rP]) | (apply WO1.appendX (t := 22) (u := 22) (e := 136) (e' := 136) (sz := 5) (tl := []) (b := 0) (h0 := ⟨0, .nil⟩) (hb := hB1) (hx := ⟨Nat.zero_le _, fun id h => absurd h (Nat.not_lt_zero id)⟩); exact Z1; exact rfl; exact Z2; exact Z2; exact Z2; (focus (exact ty_row22)); exact Z1; (focus (intro v hv; simp at hv; subst hv; rfl)); (focus (simp only [List.length_map, List.length_cons, List.length_nil]; exact hll)); (focus (simp)); (intro v' h' hB' ho' hK' hE' hX'; have hcc' := hB'.blt.cells; have htt' := hB'.blt.tup; simp only [AV.cells] at hcc'; simp only [isTuple] at htt'; simp only [pM, pN])) | refine go1 ?_ | (apply U6; exact Z1; exact Z1; (focus (simp only [List.nil_append, List.append_nil]; first | exact k116l _ | exact k117 _)); simp only [pM, pN, rR, rP]) | refine go2 (fun hh => ?_) (fun hh => ?_) | fail)
                  all_goals refine contV_mk (by first | assumption | exact HLT0.out) (by simp only [keepE, and_true, and_self, go_sem, *, Nat.reduceLT, Int.reduceEq, Int.reduceBEq, Int.reduceLE, Int.reduceLT, Nat.reduceAdd, Nat.reduceBEq, Nat.reduceEqDiff, reduceIte, Nat.reduceLeDiff, Nat.reduceMul, Nat.reduceSub, reduceCtorEq]) (by simp only [keepL, and_true, and_self, go_sem, *, Nat.reduceLT, Int.reduceEq, Int.reduceBEq, Int.reduceLE, Int.reduceLT, Nat.reduceAdd, Nat.reduceBEq, Nat.reduceEqDiff, reduceIte, Nat.reduceLeDiff, Nat.reduceMul, Nat.reduceSub, reduceCtorEq]) ?_
                  all_goals refine ⟨⟨g.hours, g.rooms ++ [⟨a0, b1, b2, b3, b4⟩], g.fans, g.op, g.hands⟩, v', u2, u3, oa, ?_, ?_, ?_, HFN.out, HSN.out, ?_, HOA.out, ?_, HOAN.out⟩
                  all_goals first | exact Z2 | skip
                  · have := HTR.out.one hB' hK' hE'
                    rw [List.map_append]
                    exact this
                  · have := HGL.out
                    simp only [List.length_append, List.length_cons, List.length_nil]
                    omega
                · rw [if_neg hnl] at hst
                  have hnq : ((ns.length : Int) != 5) = true := by simp; omega
                  have hisl := ints_sl ns (by have := HNB.out; unfold maxL; omega)
                  have hison := sl_out hisl
                  have hislen := sl_len hisl
                  have hrv := HNONE.out hst
                  unfold zeroH at hrv
                  rw [hrv]
                  clear hst hrv hB1 hB2 hB3 hnl hisl
                  generalize slN (intsE ns) = van2 at *
                  repeat' (first | (apply W.drawQ (id := 8) (l1 := [0, 1, 2, 3, 4, 5, 6, 7, 8, 9, 10, 11, 12, 13, 14, 15, 16]) (l2 := []); kernel_rfl; kernel_rfl; kernel_rfl; exact Z4) | (apply W.drawQ (id := 21) (l1 := [0, 1, 2, 3, 4, 5, 6, 7, 8, 9, 10, 11, 12, 13, 14, 15, 16, 17, 18, 19]) (l2 := [20, 21, 22]); kernel_rfl; kernel_rfl; kernel_rfl; exact Z4) | (apply W.drawQ (id := 25) (l1 := [0, 1, 2, 3, 4, 5, 6, 7, 8, 9]) (l2 := [10, 11, 12]); kernel_rfl; kernel_rfl; kernel_rfl; exact Z4) | (apply W.drawQ (id := 31) (l1 := [0, 1, 2, 3, 4, 5, 6, 7, 8, 9]) (l2 := [10, 11, 12]); kernel_rfl; kernel_rfl; kernel_rfl; exact Z4) | (apply U4 (v := vcut); (focus (simp only [go_sem, *, Nat.reduceLT, Int.reduceEq, Int.reduceBEq, Int.reduceLE, Int.reduceLT, Nat.reduceAdd, Nat.reduceBEq, Nat.reduceEqDiff, reduceIte, Nat.reduceLeDiff, Nat.reduceMul, Nat.reduceSub, reduceCtorEq, Option.map_none, Option.map_some]; done)); exact rfl; simp only [pM, pN, rR, rP]) | refine go1 ?_ | (apply U6; exact Z1; exact Z1; (focus (simp only [List.nil_append, List.append_nil]; first | exact k116l _ | exact k117 _)); simp only [pM, pN, rR, rP]) | refine go2 (fun hh => ?_) (fun hh => ?_) | fail)
                  all_goals simp only [resV_def (X := dX cZH) Tryz.func44, Tryz.results44, resultsV, resultV, go_sem, *, Nat.reduceLT, Int.reduceEq, Int.reduceBEq, Int.reduceLE, Int.reduceLT, Nat.reduceAdd, Nat.reduceBEq, Nat.reduceEqDiff, reduceIte, Nat.reduceLeDiff, Nat.reduceMul, Nat.reduceSub, reduceCtorEq, frzRes, dFrz, frzCells, isRet_ret, tupleOf]
              · have hwq0 : (w0 == ([114, 111, 111, 109] : List UInt8)) = false := by rw [beq_eq_false_iff_ne]; exact x2
                rw [if_neg x2] at hst
                clear h9c x1
                by_cases x3 : w0 = wFan
                · rw [if_pos x3] at hst
                  have hwq2 : (w0 == ([102, 97, 110] : List UInt8)) = true := by rw [x3]; rfl
                  clear x2 x3
                  by_cases hnl : ns.length = 2
                  · rw [if_pos hnl] at hst
                    obtain ⟨a0, b1, rfl⟩ := nums_2 hnl
                    have hisl := ints_sl [a0, b1] (by unfold maxL; simp)
                    have i0 : ∀ H, indexAddrV Tryz.prog H 24 (slN (intsE [a0, b1])) (.int .i64 0) = some (.vptr [.int .i64 a0]) := fun H => ints_idx hisl (k := 0) rfl H
                    have i1 : ∀ H, indexAddrV Tryz.prog H 24 (slN (intsE [a0, b1])) (.int .i64 1) = some (.vptr [.int .i64 b1]) := fun H => ints_idx hisl (k := 1) rfl H
                    have hison := sl_out hisl
                    have hislen := sl_len hisl
                    have hnq : ((([a0, b1] : List Int).length : Int) != 2) = false := rfl
                    have hnq' : ((2 : Int) != 2) = false := rfl
                    have hnq'' : (((2 : Nat) : Int) != 2) = false := rfl
                    have hst : stepQ g l = some ⟨g.hours, g.rooms, g.fans ++ [⟨a0, b1⟩], g.op, g.hands⟩ := hst
                    have HFN := Lib.hid (fold_next HL.out HFO.out hst)
                    have HSN := Lib.hid (stepQ_small HSM.out hst)
                    have hll : g.fans.length + 1 ≤ most := by have := HGL.out; have := HKB.out; unfold most; omega
                    clear hst hisl hB1 hB3
                    generalize slN (intsE [a0, b1]) = van2 at *
                    repeat' (first | (apply W.drawQ (id := 8) (l1 := [0, 1, 2, 3, 4, 5, 6, 7, 8, 9, 10, 11, 12, 13, 14, 15, 16]) (l2 := []); kernel_rfl; kernel_rfl; kernel_rfl; exact Z4) | (apply W.drawQ (id := 21) (l1 := [0, 1, 2, 3, 4, 5, 6, 7, 8, 9, 10, 11, 12, 13, 14, 15, 16, 17, 18, 19]) (l2 := [20, 21, 22]); kernel_rfl; kernel_rfl; kernel_rfl; exact Z4) | (apply W.drawQ (id := 25) (l1 := [0, 1, 2, 3, 4, 5, 6, 7, 8, 9]) (l2 := [10, 11, 12]); kernel_rfl; kernel_rfl; kernel_rfl; exact Z4) | (apply W.drawQ (id := 31) (l1 := [0, 1, 2, 3, 4, 5, 6, 7, 8, 9]) (l2 := [10, 11, 12]); kernel_rfl; kernel_rfl; kernel_rfl; exact Z4) | (apply U4 (v := vcut); (focus (simp only [go_sem, *, Nat.reduceLT, Int.reduceEq, Int.reduceBEq, Int.reduceLE, Int.reduceLT, Nat.reduceAdd, Nat.reduceBEq, Nat.reduceEqDiff, reduceIte, Nat.reduceLeDiff, Nat.reduceMul, Nat.reduceSub, reduceCtorEq, Option.map_none, Option.map_some]; done)); exact rfl; simp only [pM, pN, rR, rP]) | (apply WO1.appendX (t := 23) (u := 23) (e := 103) (e' := 103) (sz := 2) (tl := []) (b := 0) (h0 := ⟨0, .nil⟩) (hb := hB2) (hx := ⟨Nat.zero_le _, fun id h => absurd h (Nat.not_lt_zero id)⟩); exact Z1; exact rfl; exact Z2; exact Z2; exact Z2; (focus (exact ty_row23)); exact Z1; (focus (intro v hv; simp at hv; subst hv; rfl)); (focus (simp only [List.length_map, List.length_cons, List.length_nil]; exact hll)); (focus (simp)); (intro v' h' hB' ho' hK' hE' hX'; have hcc' := hB'.blt.cells; have htt' := hB'.blt.tup; simp only [AV.cells] at hcc'; simp only [isTuple] at htt'; simp only [pM, pN])) | refine go1 ?_ | (apply U6; exact Z1; exact Z1; (focus (simp only [List.nil_append, List.append_nil]; first | exact k116l _ | exact k117 _)); simp only [pM, pN, rR, rP]) | refine go2 (fun hh => ?_) (fun hh => ?_) | fail)
                    all_goals refine contV_mk (by first | assumption | exact HLT0.out) (by simp only [keepE, and_true, and_self, go_sem, *, Nat.reduceLT, Int.reduceEq, Int.reduceBEq, Int.reduceLE, Int.reduceLT, Nat.reduceAdd, Nat.reduceBEq, Nat.reduceEqDiff, reduceIte, Nat.reduceLeDiff, Nat.reduceMul, Nat.reduceSub, reduceCtorEq]) (by simp only [keepL, and_true, and_self, go_sem, *, Nat.reduceLT, Int.reduceEq, Int.reduceBEq, Int.reduceLE, Int.reduceLT, Nat.reduceAdd, Nat.reduceBEq, Nat.reduceEqDiff, reduceIte, Nat.reduceLeDiff, Nat.reduceMul, Nat.reduceSub, reduceCtorEq]) ?_
                    all_goals refine ⟨⟨g.hours, g.rooms, g.fans ++ [⟨a0, b1⟩], g.op, g.hands⟩, u1, v', u3, oa, ?_, ?_, ?_, HFN.out, HSN.out, ?_, HOA.out, ?_, HOAN.out⟩
                    all_goals first | exact Z2 | skip
                    · have := HTR.out.two hB' hK' hE'
                      rw [List.map_append]
                      exact this
                    · have := HGL.out
                      simp only [List.length_append, List.length_cons, List.length_nil]
                      omega
                  · rw [if_neg hnl] at hst
                    have hnq : ((ns.length : Int) != 2) = true := by simp; omega
                    have hisl := ints_sl ns (by have := HNB.out; unfold maxL; omega)
                    have hison := sl_out hisl
                    have hislen := sl_len hisl
                    have hrv := HNONE.out hst
                    unfold zeroH at hrv
                    rw [hrv]
                    clear hst hrv hB1 hB2 hB3 hnl hisl
                    generalize slN (intsE ns) = van2 at *
                    repeat' (first | (apply W.drawQ (id := 8) (l1 := [0, 1, 2, 3, 4, 5, 6, 7, 8, 9, 10, 11, 12, 13, 14, 15, 16]) (l2 := []); kernel_rfl; kernel_rfl; kernel_rfl; exact Z4) | (apply W.drawQ (id := 21) (l1 := [0, 1, 2, 3, 4, 5, 6, 7, 8, 9, 10, 11, 12, 13, 14, 15, 16, 17, 18, 19]) (l2 := [20, 21, 22]); kernel_rfl; kernel_rfl; kernel_rfl; exact Z4) | (apply W.drawQ (id := 25) (l1 := [0, 1, 2, 3, 4, 5, 6, 7, 8, 9]) (l2 := [10, 11, 12]); kernel_rfl; kernel_rfl; kernel_rfl; exact Z4) | (apply W.drawQ (id := 31) (l1 := [0, 1, 2, 3, 4, 5, 6, 7, 8, 9]) (l2 := [10, 11, 12]); kernel_rfl; kernel_rfl; kernel_rfl; exact Z4) | (apply U4 (v := vcut); (focus (simp only [go_sem, *, Nat.reduceLT, Int.reduceEq, Int.reduceBEq, Int.reduceLE, Int.reduceLT, Nat.reduceAdd, Nat.reduceBEq, Nat.reduceEqDiff, reduceIte, Nat.reduceLeDiff, Nat.reduceMul, Nat.reduceSub, reduceCtorEq, Option.map_none, Option.map_some]; done)); exact rfl; simp only [pM, pN, rR, rP]) | refine go1 ?_ | (apply U6; exact Z1; exact Z1; (focus (simp only [List.nil_append, List.append_nil]; first | exact k116l _ | exact k117 _)); simp only [pM, pN, rR, rP]) | refine go2 (fun hh => ?_) (fun hh => ?_) | fail)
                    all_goals simp only [resV_def (X := dX cZH) Tryz.func44, Tryz.results44, resultsV, resultV, go_sem, *, Nat.reduceLT, Int.reduceEq, Int.reduceBEq, Int.reduceLE, Int.reduceLT, Nat.reduceAdd, Nat.reduceBEq, Nat.reduceEqDiff, reduceIte, Nat.reduceLeDiff, Nat.reduceMul, Nat.reduceSub, reduceCtorEq, frzRes, dFrz, frzCells, isRet_ret, tupleOf]
                · have hwq2 : (w0 == ([102, 97, 110] : List UInt8)) = false := by rw [beq_eq_false_iff_ne]; exact x3
                  rw [if_neg x3] at hst
                  by_cases x4 : w0 = wOpen
                  · rw [if_pos x4] at hst
                    have hwq3 : (w0 == ([111, 112, 101, 110] : List UInt8)) = true := by rw [x4]; rfl
                    clear x2 x3 x4
                    have hisl := ints_sl ns (by have := HNB.out; unfold maxL; omega)
                    have hison := sl_out hisl
                    have hisc := (slV_is hisl).1.cells
                    have hist := (slV_is hisl).1.tup
                    simp only [AV.cells] at hisc
                    simp only [isTuple] at hist
                    have HFN := Lib.hid (fold_next HL.out HFO.out hst)
                    have HSN := Lib.hid (stepQ_small HSM.out hst)
                    have HISL := Lib.hid hisl
                    clear hst hisl hB1 hB2 hB3
                    generalize hvn : slN (intsE ns) = van2 at *
                    have HVN := Lib.hid hvn.symm
                    clear hvn
                    repeat' (first | (apply W.drawQ (id := 8) (l1 := [0, 1, 2, 3, 4, 5, 6, 7, 8, 9, 10, 11, 12, 13, 14, 15, 16]) (l2 := []); kernel_rfl; kernel_rfl; kernel_rfl; exact Z4) | (apply W.drawQ (id := 21) (l1 := [0, 1, 2, 3, 4, 5, 6, 7, 8, 9, 10, 11, 12, 13, 14, 15, 16, 17, 18, 19]) (l2 := [20, 21, 22]); kernel_rfl; kernel_rfl; kernel_rfl; exact Z4) | (apply W.drawQ (id := 25) (l1 := [0, 1, 2, 3, 4, 5, 6, 7, 8, 9]) (l2 := [10, 11, 12]); kernel_rfl; kernel_rfl; kernel_rfl; exact Z4) | (apply W.drawQ (id := 31) (l1 := [0, 1, 2, 3, 4, 5, 6, 7, 8, 9]) (l2 := [10, 11, 12]); kernel_rfl; kernel_rfl; kernel_rfl; exact Z4) | (apply U4 (v := vcut); (focus (simp only [go_sem, *, Nat.reduceLT, Int.reduceEq, Int.reduceBEq, Int.reduceLE, Int.reduceLT, Nat.reduceAdd, Nat.reduceBEq, Nat.reduceEqDiff, reduceIte, Nat.reduceLeDiff, Nat.reduceMul, Nat.reduceSub, reduceCtorEq, Option.map_none, Option.map_some]; done)); exact rfl; simp only [pM, pN, rR, rP]) | refine go1 ?_ | (apply U6; exact Z1; exact Z1; (focus (simp only [List.nil_append, List.append_nil]; first | exact k116l _ | exact k117 _)); simp only [pM, pN, rR, rP]) | refine go2 (fun hh => ?_) (fun hh => ?_) | fail)
                    all_goals refine contV_mk (by first | assumption | exact HLT0.out) (by simp only [keepE, and_true, and_self, go_sem, *, Nat.reduceLT, Int.reduceEq, Int.reduceBEq, Int.reduceLE, Int.reduceLT, Nat.reduceAdd, Nat.reduceBEq, Nat.reduceEqDiff, reduceIte, Nat.reduceLeDiff, Nat.reduceMul, Nat.reduceSub, reduceCtorEq]) (by simp only [keepL, and_true, and_self, go_sem, *, Nat.reduceLT, Int.reduceEq, Int.reduceBEq, Int.reduceLE, Int.reduceLT, Nat.reduceAdd, Nat.reduceBEq, Nat.reduceEqDiff, reduceIte, Nat.reduceLeDiff, Nat.reduceMul, Nat.reduceSub, reduceCtorEq]) ?_
                    all_goals refine ⟨⟨g.hours, g.rooms, g.fans, ns, g.hands⟩, u1, u2, u3, van2, ?_, ?_, ?_, HFN.out, HSN.out, HTR.out, HISL.out, ?_, HVN.out⟩
                    all_goals first | exact Z2 | skip
                    have := HGL.out
                    have := HNB.out
                    simp only
                    omega
                  · have hwq3 : (w0 == ([111, 112, 101, 110] : List UInt8)) = false := by rw [beq_eq_false_iff_ne]; exact x4
                    rw [if_neg x4] at hst
                    by_cases x5 : w0 = wHand
                    · rw [if_pos x5] at hst
                      have hwq4 : (w0 == ([104, 97, 110, 100] : List UInt8)) = true := by rw [x5]; rfl
                      clear x2 x3 x4 x5
                      by_cases hnl : ns.length = 2
                      · rw [if_pos hnl] at hst
                        obtain ⟨a0, b1, rfl⟩ := nums_2 hnl
                        have hisl := ints_sl [a0, b1] (by unfold maxL; simp)
                        have i0 : ∀ H, indexAddrV Tryz.prog H 24 (slN (intsE [a0, b1])) (.int .i64 0) = some (.vptr [.int .i64 a0]) := fun H => ints_idx hisl (k := 0) rfl H
                        have i1 : ∀ H, indexAddrV Tryz.prog H 24 (slN (intsE [a0, b1])) (.int .i64 1) = some (.vptr [.int .i64 b1]) := fun H => ints_idx hisl (k := 1) rfl H
                        have hison := sl_out hisl
                        have hislen := sl_len hisl
                        have hnq : ((([a0, b1] : List Int).length : Int) != 2) = false := rfl
                        have hnq' : ((2 : Int) != 2) = false := rfl
                        have hnq'' : (((2 : Nat) : Int) != 2) = false := rfl
                        have hst : stepQ g l = some ⟨g.hours, g.rooms, g.fans, g.op, g.hands ++ [⟨a0, b1⟩]⟩ := hst
                        have HFN := Lib.hid (fold_next HL.out HFO.out hst)
                        have HSN := Lib.hid (stepQ_small HSM.out hst)
                        have hll : g.hands.length + 1 ≤ most := by have := HGL.out; have := HKB.out; unfold most; omega
                        clear hst hisl hB1 hB2
                        generalize slN (intsE [a0, b1]) = van2 at *
                        repeat' (first | (apply W.drawQ (id := 8) (l1 := [0, 1, 2, 3, 4, 5, 6, 7, 8, 9, 10, 11, 12, 13, 14, 15, 16]) (l2 := []); kernel_rfl; kernel_rfl; kernel_rfl; exact Z4) | (apply W.drawQ (id := 21) (l1 := [0, 1, 2, 3, 4, 5, 6, 7, 8, 9, 10, 11, 12, 13, 14, 15, 16, 17, 18, 19]) (l2 := [20, 21, 22]); kernel_rfl; kernel_rfl; kernel_rfl; exact Z4) | (apply W.drawQ (id := 25) (l1 := [0, 1, 2, 3, 4, 5, 6, 7, 8, 9]) (l2 := [10, 11, 12]); kernel_rfl; kernel_rfl; kernel_rfl; exact Z4) | (apply W.drawQ (id := 31) (l1 := [0, 1, 2, 3, 4, 5, 6, 7, 8, 9]) (l2 := [10, 11, 12]); kernel_rfl; kernel_rfl; kernel_rfl; exact Z4) | (apply U4 (v := vcut); (focus (simp only [go_sem, *, Nat.reduceLT, Int.reduceEq, Int.reduceBEq, Int.reduceLE, Int.reduceLT, Nat.reduceAdd, Nat.reduceBEq, Nat.reduceEqDiff, reduceIte, Nat.reduceLeDiff, Nat.reduceMul, Nat.reduceSub, reduceCtorEq, Option.map_none, Option.map_some]; done)); exact rfl; simp only [pM, pN, rR, rP]) | (apply WO1.appendX (t := 25) (u := 25) (e := 106) (e' := 106) (sz := 2) (tl := []) (b := 0) (h0 := ⟨0, .nil⟩) (hb := hB3) (hx := ⟨Nat.zero_le _, fun id h => absurd h (Nat.not_lt_zero id)⟩); exact Z1; exact rfl; exact Z2; exact Z2; exact Z2; (focus (exact ty_row25)); exact Z1; (focus (intro v hv; simp at hv; subst hv; rfl)); (focus (simp only [List.length_map, List.length_cons, List.length_nil]; exact hll)); (focus (simp)); (intro v' h' hB' ho' hK' hE' hX'; have hcc' := hB'.blt.cells; have htt' := hB'.blt.tup; simp only [AV.cells] at hcc'; simp only [isTuple] at htt'; simp only [pM, pN])) | refine go1 ?_ | (apply U6; exact Z1; exact Z1; (focus (simp only [List.nil_append, List.append_nil]; first | exact k116l _ | exact k117 _)); simp only [pM, pN, rR, rP]) | refine go2 (fun hh => ?_) (fun hh => ?_) | fail)
                        all_goals refine contV_mk (by first | assumption | exact HLT0.out) (by simp only [keepE, and_true, and_self, go_sem, *, Nat.reduceLT, Int.reduceEq, Int.reduceBEq, Int.reduceLE, Int.reduceLT, Nat.reduceAdd, Nat.reduceBEq, Nat.reduceEqDiff, reduceIte, Nat.reduceLeDiff, Nat.reduceMul, Nat.reduceSub, reduceCtorEq]) (by simp only [keepL, and_true, and_self, go_sem, *, Nat.reduceLT, Int.reduceEq, Int.reduceBEq, Int.reduceLE, Int.reduceLT, Nat.reduceAdd, Nat.reduceBEq, Nat.reduceEqDiff, reduceIte, Nat.reduceLeDiff, Nat.reduceMul, Nat.reduceSub, reduceCtorEq]) ?_
                        all_goals refine ⟨⟨g.hours, g.rooms, g.fans, g.op, g.hands ++ [⟨a0, b1⟩]⟩, u1, u2, v', oa, ?_, ?_, ?_, HFN.out, HSN.out, ?_, HOA.out, ?_, HOAN.out⟩
                        all_goals first | exact Z2 | skip
                        · have := HTR.out.three hB' hK' hE'
                          rw [List.map_append]
                          exact this
                        · have := HGL.out
                          simp only [List.length_append, List.length_cons, List.length_nil]
                          omega
                      · rw [if_neg hnl] at hst
                        have hnq : ((ns.length : Int) != 2) = true := by simp; omega
                        have hisl := ints_sl ns (by have := HNB.out; unfold maxL; omega)
                        have hison := sl_out hisl
                        have hislen := sl_len hisl
                        have hrv := HNONE.out hst
                        unfold zeroH at hrv
                        rw [hrv]
                        clear hst hrv hB1 hB2 hB3 hnl hisl
                        generalize slN (intsE ns) = van2 at *
                        repeat' (first | (apply W.drawQ (id := 8) (l1 := [0, 1, 2, 3, 4, 5, 6, 7, 8, 9, 10, 11, 12, 13, 14, 15, 16]) (l2 := []); kernel_rfl; kernel_rfl; kernel_rfl; exact Z4) | (apply W.drawQ (id := 21) (l1 := [0, 1, 2, 3, 4, 5, 6, 7, 8, 9, 10, 11, 12, 13, 14, 15, 16, 17, 18, 19]) (l2 := [20, 21, 22]); kernel_rfl; kernel_rfl; kernel_rfl; exact Z4) | (apply W.drawQ (id := 25) (l1 := [0, 1, 2, 3, 4, 5, 6, 7, 8, 9]) (l2 := [10, 11, 12]); kernel_rfl; kernel_rfl; kernel_rfl; exact Z4) | (apply W.drawQ (id := 31) (l1 := [0, 1, 2, 3, 4, 5, 6, 7, 8, 9]) (l2 := [10, 11, 12]); kernel_rfl; kernel_rfl; kernel_rfl; exact Z4) | (apply U4 (v := vcut); (focus (simp only [go_sem, *, Nat.reduceLT, Int.reduceEq, Int.reduceBEq, Int.reduceLE, Int.reduceLT, Nat.reduceAdd, Nat.reduceBEq, Nat.reduceEqDiff, reduceIte, Nat.reduceLeDiff, Nat.reduceMul, Nat.reduceSub, reduceCtorEq, Option.map_none, Option.map_some]; done)); exact rfl; simp only [pM, pN, rR, rP]) | refine go1 ?_ | (apply U6; exact Z1; exact Z1; (focus (simp only [List.nil_append, List.append_nil]; first | exact k116l _ | exact k117 _)); simp only [pM, pN, rR, rP]) | refine go2 (fun hh => ?_) (fun hh => ?_) | fail)
                        all_goals simp only [resV_def (X := dX cZH) Tryz.func44, Tryz.results44, resultsV, resultV, go_sem, *, Nat.reduceLT, Int.reduceEq, Int.reduceBEq, Int.reduceLE, Int.reduceLT, Nat.reduceAdd, Nat.reduceBEq, Nat.reduceEqDiff, reduceIte, Nat.reduceLeDiff, Nat.reduceMul, Nat.reduceSub, reduceCtorEq, frzRes, dFrz, frzCells, isRet_ret, tupleOf]
                    · have hwq4 : (w0 == ([104, 97, 110, 100] : List UInt8)) = false := by rw [beq_eq_false_iff_ne]; exact x5
                      rw [if_neg x5] at hst
                      have hnq : True := trivial
                      have hnl : True := trivial
                      clear x2 x3 x4 x5
                      have hisl := ints_sl ns (by have := HNB.out; unfold maxL; omega)
                      have hison := sl_out hisl
                      have hislen := sl_len hisl
                      have hrv := HNONE.out hst
                      unfold zeroH at hrv
                      rw [hrv]
                      clear hst hrv hB1 hB2 hB3 hnl hisl
                      generalize slN (intsE ns) = van2 at *
                      repeat' (first | (apply W.drawQ (id := 8) (l1 := [0, 1, 2, 3, 4, 5, 6, 7, 8, 9, 10, 11, 12, 13, 14, 15, 16]) (l2 := []); kernel_rfl; kernel_rfl; kernel_rfl; exact Z4) | (apply W.drawQ (id := 21) (l1 := [0, 1, 2, 3, 4, 5, 6, 7, 8, 9, 10, 11, 12, 13, 14, 15, 16, 17, 18, 19]) (l2 := [20, 21, 22]); kernel_rfl; kernel_rfl; kernel_rfl; exact Z4) | (apply W.drawQ (id := 25) (l1 := [0, 1, 2, 3, 4, 5, 6, 7, 8, 9]) (l2 := [10, 11, 12]); kernel_rfl; kernel_rfl; kernel_rfl; exact Z4) | (apply W.drawQ (id := 31) (l1 := [0, 1, 2, 3, 4, 5, 6, 7, 8, 9]) (l2 := [10, 11, 12]); kernel_rfl; kernel_rfl; kernel_rfl; exact Z4) | (apply U4 (v := vcut); (focus (simp only [go_sem, *, Nat.reduceLT, Int.reduceEq, Int.reduceBEq, Int.reduceLE, Int.reduceLT, Nat.reduceAdd, Nat.reduceBEq, Nat.reduceEqDiff, reduceIte, Nat.reduceLeDiff, Nat.reduceMul, Nat.reduceSub, reduceCtorEq, Option.map_none, Option.map_some]; done)); exact rfl; simp only [pM, pN, rR, rP]) | refine go1 ?_ | (apply U6; exact Z1; exact Z1; (focus (simp only [List.nil_append, List.append_nil]; first | exact k116l _ | exact k117 _)); simp only [pM, pN, rR, rP]) | refine go2 (fun hh => ?_) (fun hh => ?_) | fail)
                      all_goals simp only [resV_def (X := dX cZH) Tryz.func44, Tryz.results44, resultsV, resultV, go_sem, *, Nat.reduceLT, Int.reduceEq, Int.reduceBEq, Int.reduceLE, Int.reduceLT, Nat.reduceAdd, Nat.reduceBEq, Nat.reduceEqDiff, reduceIte, Nat.reduceLeDiff, Nat.reduceMul, Nat.reduceSub, reduceCtorEq, frzRes, dFrz, frzCells, isRet_ret, tupleOf]
      · have hd0 : decide ((k : Int) < (((restQ s).length : Nat) : Int)) = false := by simpa using hlt
        obtain rfl : k = (restQ s).length := by omega
        have hdx : decide (((restQ s).length : Int) < LI) = false := by have := HRN.out; have := HLI.out; simp; omega
        rw [List.take_length] at hfo
        have hB1 := hTr.b1
        have hB2 := hTr.b2
        have hB3 := hTr.b3
        obtain ⟨q1, q2, q3⟩ := hB1.parts
        obtain ⟨q4, q5, q6⟩ := hB2.parts
        obtain ⟨q7, q8, q9⟩ := hB3.parts
        have q10 := sl_out hoa
        have q11 := (slV_is hoa).1.cells
        have q12 := (slV_is hoa).1.tup
        simp only [AV.cells] at q2 q5 q8 q11
        simp only [isTuple] at q3 q6 q9 q12
        have hrb : readQ s = if textH g = s then some g else none := by rw [HRQ.out, hfo]
        obtain ⟨gl1, gl4⟩ := hgl
        have hrl2 : (restQ s).length ≤ 600 := by have := HRN.out; have := HL1.out; omega
        have hok : okT g = true := by
          unfold okT
          simp only [Bool.and_eq_true, decide_eq_true_eq]
          exact ⟨⟨hsm, by omega⟩, gl4⟩
        have hs1 : SeeV hp rmC u1 g.rooms := SeeV.blt hB1.blt (by unfold maxL; omega)
        have hs2 : SeeV hp faC u2 g.fans := SeeV.blt hB2.blt (by unfold maxL; omega)
        have hs3 : SeeV hp intC oa g.op := SeeV.of hoa hp
        have hs4 : SeeV hp haC u3 g.hands := SeeV.blt hB3.blt (by unfold maxL; omega)
        have k42 := K42 (X := dX cZH) rfl hs1 hs2 hs3 hs4 hok
        have HOAN := Lib.hid hoaN
        clear hoaN
        by_cases hts : textH g = s
        · rw [if_pos hts] at hrb
          have hrv := HY.out g hrb
          unfold hsE at hrv
          rw [hrv]
          have hq : (textH g != s) = false := by simpa using hts
          obtain ⟨z1, y1, y2, y3, e1, p1⟩ := hB1.freeze
          have hB2' := hB2.afterFrz y3 e1 p1 hTr.s12.symm
          have hB3' := hB3.afterFrz y3 e1 p1 hTr.s13.symm
          obtain ⟨z2, y4, y5, y6, e2, p2⟩ := hB2'.freeze
          have hB3'' := hB3'.afterFrz y6 e2 p2 hTr.s23.symm
          obtain ⟨z3, y7, y8, y9, e3, p3⟩ := hB3''.freeze
          have y10 : ∀ H, frz1 H oa = some (slN (intsE g.op), H) := fun H => by
            rw [(slV_is hoa).1.frz1]
            have := HOAN.out
            rw [this]
          clear hs1 hs2 hs3 hs4 hB1 hB2 hB3 hB2' hB3' hB3'' p1 p2 p3 hrb hTr hts hoa hsm hfo hrv
          repeat' (first | refine goS ?_ | (apply U6; exact Z1; exact Z1; (focus (simp only [List.nil_append, List.append_nil]; first | exact k42)); simp only [pM, pN, rR, rP]) | refine go2 (fun hh => ?_) (fun hh => ?_) | fail)
          all_goals simp only [resV_def (X := dX cZH) Tryz.func44, Tryz.results44, resultsV, resultV, go_sem, *, Nat.reduceLT, Int.reduceEq, Int.reduceBEq, Int.reduceLE, Int.reduceLT, Nat.reduceAdd, Nat.reduceBEq, Nat.reduceEqDiff, reduceIte, Nat.reduceLeDiff, Nat.reduceMul, Nat.reduceSub, reduceCtorEq, frzRes, dFrz, frzCells, isRet_ret, tupleOf]
        · rw [if_neg hts] at hrb
          have hrv := HN.out hrb
          unfold zeroH at hrv
          rw [hrv]
          have hq : (textH g != s) = true := by simpa using hts
          clear hs1 hs2 hs3 hs4 hB1 hB2 hB3 hrb hTr hts hoa hsm hfo hrv
          repeat' (first | refine goS ?_ | (apply U6; exact Z1; exact Z1; (focus (simp only [List.nil_append, List.append_nil]; first | exact k42)); simp only [pM, pN, rR, rP]) | refine go2 (fun hh => ?_) (fun hh => ?_) | fail)
          all_goals simp only [resV_def (X := dX cZH) Tryz.func44, Tryz.results44, resultsV, resultV, go_sem, *, Nat.reduceLT, Int.reduceEq, Int.reduceBEq, Int.reduceLE, Int.reduceLT, Nat.reduceAdd, Nat.reduceBEq, Nat.reduceEqDiff, reduceIte, Nat.reduceLeDiff, Nat.reduceMul, Nat.reduceSub, reduceCtorEq, frzRes, dFrz, frzCells, isRet_ret, tupleOf]
    · cases h
  · cases h
theorem K44 {X : Ctx} (hX : X.intr 44 = some (pureFn sp44)) (s : List UInt8) (hs : s.length ≤ 600) (h : Heap) : Cl X 44 [.str s] h (.ret (rdV44 s) h none) :=
  Cl.intr hX (by simp [pureFn, AV.pur, AV.purL, sp44, hs])
end Go.AM
