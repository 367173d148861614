/-
  A part of the proof: contracts of functions.
-/
import Derived.Test.YtkpbdjpekjdhcaaGreatDoorSAH
set_option linter.unusedSectionVars false
set_option linter.unusedVariables false
set_option linter.unusedSimpArgs false
set_option maxRecDepth 100000
namespace Go.AM
open Go Go.Proofs
variable [Keep]
attribute [local irreducible] W WO WO1 WD WQ WT thenQ blockQ endR isRet retK Cl ClR
open Go.TX (Rm Fa Ha Hs lineW houseL roomL fanL openL handL linesH ck ck1 endL allL textH smallH smallP wHouse wRoom wMake wWait wStart wFan wOpen wHand)
theorem smallP_N {n : Int} (h : smallP n = true) : okN n = true := by
  unfold smallP at h
  unfold okN
  simp only [Bool.and_eq_true, decide_eq_true_eq] at h ⊢
  omega
theorem K114g {X : Ctx} (hX : X.intr 114 = some (pureFn sp114)) (ns : List Int) (hn : ns.all okN = true) (hl : ns.length ≤ 10) (h : Heap) : Cl X 114 [.vslice (ns.map (AV.int .i64))] h (.ret (.str (wordsT ns)) h none) :=
  K114 hX _ ns (by
    have := decL_map intC ns
    unfold slV
    simp only
    rw [if_pos (by rw [List.length_map]; unfold maxL; omega)]
    exact this) hn (by omega) h
theorem words_len (ns : List Int) : (wordsT ns).length ≤ 22 * ns.length := by
  have := lineT_len [] ns
  simpa [wordsT] using this
theorem words_line (w : List UInt8) (ns : List Int) : lineT w ns = w ++ wordsT ns := by
  simp [wordsT, lineT, lineW]
theorem house_words (h : Hs) : houseL h = wHouse ++ wordsT [h.hours] := words_line wHouse [h.hours]
theorem fan_words (f : Fa) : fanL f = wFan ++ wordsT [f.room, f.draws] := words_line wFan [f.room, f.draws]
theorem hand_words (f : Ha) : handL f = wHand ++ wordsT [f.limit, f.most] := words_line wHand [f.limit, f.most]
theorem open_words (h : Hs) : openL h = wOpen ++ wordsT h.op := words_line wOpen h.op
theorem room_words (r : Rm) : roomL r = wRoom ++ (wordsT [r.lo, r.hi] ++ (32 :: wMake ++ (wordsT [r.mke] ++ (32 :: wWait ++ (wordsT [r.wt] ++ (32 :: wStart ++ wordsT [r.stt])))))) := by
  simp [roomL, lineW, wordsT, lineT]
def flatT (L : List (List UInt8)) : List UInt8 := L.flatMap fun l => l ++ [10]
theorem flatT_next {L : List (List UInt8)} {k : Nat} {l : List UInt8} (h : L[k]? = some l) : flatT (L.take (k + 1)) = flatT (L.take k) ++ (l ++ [10]) := by
  unfold flatT
  rw [take_next h, List.flatMap_append]
  simp
theorem flatT_take (L : List (List UInt8)) (k : Nat) : (flatT (L.take k)).length ≤ (flatT L).length := by
  have e : flatT L = flatT (L.take k) ++ flatT (L.drop k) := by
    unfold flatT
    rw [← List.flatMap_append, List.take_append_drop]
  rw [e, List.length_append]
  omega
theorem text_flat (h : Hs) : textH h = flatT (linesH h) ++ (endL (ck (linesH h) % 107) ++ [10]) := by
  unfold textH allL flatT
  simp
theorem BltN.as {b : Nat} {h : Heap} {v : AV} {sz : Nat} {ls : List AV} {x y : List UInt8} (q : BltN b h v sz (ls ++ [.str x])) (e : x = y) : BltN b h v sz (ls ++ [.str y]) := by subst e; exact q
noncomputable def cZG : FuncId → Option (List AV → Heap → Option (AV × Heap))
  | 114 => some (pureFn sp114)
  | 115 => some (pureFn sp115)
  | _ => none
theorem cZG_sound : Sound (dX cZG) := dX_sound (fun f g h => by
  unfold cZG at h
  split at h
  · cases h; exact F114
  · cases h; exact F115
  · cases h)
attribute [local irreducible] textH linesH lineT ck ck1 pre2 pre3 roomL fanL openL handL houseL wordsT flatT
set_option maxHeartbeats 8000000 in
theorem R42 : ∀ args v, sp110 args = some v → ClR (dX cZG) 42 args emptyHp (isRet v) := by
  intro args v h
  unfold sp110 at h
  split at h
  · rename_i x
    split at h
    · rename_i hs hh
      split at h
      · rename_i hok
        have h := Option.some.inj h
        subst h
        obtain ⟨ra, fa, oa, ha, rfl, v1, v2, v3, v4⟩ := hsV_is hh
        unfold okT at hok
        simp only [Bool.and_eq_true, decide_eq_true_eq] at hok
        obtain ⟨⟨hsm, nn⟩, n3⟩ := hok
        have htl := text_40 hsm nn n3
        have n1 : hs.rooms.length ≤ 600 := by omega
        have n2 : hs.fans.length ≤ 600 := by omega
        have n4 : hs.hands.length ≤ 600 := by omega
        have l1 := sl_len v1
        have l2 := sl_len v2
        have l4 := sl_len v4
        have o1 := sl_out v1
        have o2 := sl_out v2
        have o3 := sl_out v3
        have o4 := sl_out v4
        have hsh : okN hs.hours = true := smallP_N (TX.sm_hours hsm)
        have hso : hs.op.all okN = true := List.all_eq_true.2 fun n hn => smallP_N (List.all_eq_true.1 (TX.sm_op hsm) n hn)
        have k114h := fun h => K114g (X := dX cZG) rfl [hs.hours] (by simp [hsh]) (by simp) h
        have k114o := fun h => K114 (X := dX cZG) rfl oa hs.op v3 hso (by omega) h
        simp only [List.map_cons, List.map_nil] at k114h
        have ehw := house_words hs
        have eow := open_words hs
        have y1 := words_len [hs.hours]
        have y2 := words_len hs.op
        simp only [List.length_cons, List.length_nil] at y1
        have hd2 := lines_4000 hsm n3
        have htx := text_flat hs
        have HTX := Lib.hid htx
        have HSM := Lib.hid hsm
        have H1 := Lib.hid v1
        have H2 := Lib.hid v2
        have H4 := Lib.hid v4
        have HD2 := Lib.hid hd2
        have hlc : (linesH hs).length = hs.rooms.length + hs.fans.length + hs.hands.length + 2 := by unfold linesH; simp; omega
        have HLC := Lib.hid hlc
        have EHW := Lib.hid ehw
        have EOW := Lib.hid eow
        clear hsm v1 v2 v3 v4 hsh hso hd2 htx hlc hh ehw eow
        generalize wordsT [hs.hours] = tw at *
        generalize wordsT hs.op = tow at *
        refine ClR.walk (c := _) rfl Tryz.func42 rfl (by kernel_rfl) rfl isRet_fail ?_
        simp only [entryEnv, Nat.reduceAdd, emptyHp]
        repeat' (first | (apply WO1.rowB (e := 9) (sz := 1); exact Z2; exact Z2; exact Z1; exact rfl; simp only [pM, pN, List.length_cons, List.length_nil]) | (apply WO1.sadd; exact Z1; exact Z1; exact rfl; (focus (first | omega | (simp only [List.length_append, List.length_cons, List.length_nil]; omega))); simp only [pM, pN]) | refine go1 ?_ | (apply U6; exact Z1; exact Z1; (focus (simp only [List.nil_append, List.append_nil]; first | exact k114h _)); simp only [pM, pN, rR, rP]) | refine go2 (fun hh => ?_) (fun hh => ?_) | fail)
        clear k114h
        refine W.loopV (hs.rooms.length) [1] [1] (fun k e lm hp => ∃ u, e.get 4 = some (.int .i64 ↑k) ∧ e.get 3 = some (u) ∧ BltN 0 hp u 1 (([houseL hs] ++ (hs.rooms.take k).map roomL).map AV.str)) ?_ ?_
        · skip
          refine ⟨_, ?_, ?_, .inr ⟨0, rfl, ?_, Nat.le_refl _, ?_, by simp⟩⟩
          all_goals first | exact Z2 | (rw [EHW.out]; simp [go_sem, *, wHouse]; done) | simp [go_sem, *]
        intro k e lm hp hk0 hce hcl hinv
        simp only [keepE, and_true] at hce
        have c1 := hce
        clear hce
        simp only [go_sem, *, Nat.reduceLT, Int.reduceEq, Int.reduceBEq, Int.reduceLE, Int.reduceLT, Nat.reduceAdd, Nat.reduceBEq, Nat.reduceEqDiff, reduceIte, Nat.reduceLeDiff, Nat.reduceMul, Nat.reduceSub, reduceCtorEq] at c1
        simp only [keepL, and_true] at hcl
        have d1 := hcl
        clear hcl
        simp only [go_sem, *, Nat.reduceLT, Int.reduceEq, Int.reduceBEq, Int.reduceLE, Int.reduceLT, Nat.reduceAdd, Nat.reduceBEq, Nat.reduceEqDiff, reduceIte, Nat.reduceLeDiff, Nat.reduceMul, Nat.reduceSub, reduceCtorEq] at d1
        obtain ⟨u, h4, h3, hB⟩ := hinv
        by_cases hlt : k < hs.rooms.length
        · have hd0 : decide ((k : Int) < ((hs.rooms.length : Nat) : Int)) = true := by simpa using hlt
          have hv_0 := wrap_succ hlt (by unfold maxL; omega)
          have hbo := hB.blt.out
          obtain ⟨r, hr⟩ := get_some hlt
          have hix := fun H => rms_idx H1.out hr H
          have hrk := TX.sm_room HSM.out (List.mem_of_getElem? hr)
          unfold TX.Rm.ok at hrk
          simp only [Bool.and_eq_true] at hrk
          obtain ⟨⟨⟨⟨q1, q2⟩, q3⟩, q4⟩, q5⟩ := hrk
          have k114a := fun h => K114g (X := dX cZG) rfl [r.lo, r.hi] (by simp [smallP_N q1, smallP_N q2]) (by simp) h
          have k114b := fun h => K114g (X := dX cZG) rfl [r.mke] (by simp [smallP_N q3]) (by simp) h
          have k114c := fun h => K114g (X := dX cZG) rfl [r.wt] (by simp [smallP_N q4]) (by simp) h
          have k114d := fun h => K114g (X := dX cZG) rfl [r.stt] (by simp [smallP_N q5]) (by simp) h
          simp only [List.map_cons, List.map_nil] at k114a k114b k114c k114d
          have z1 := words_len [r.lo, r.hi]
          have z2 := words_len [r.mke]
          have z3 := words_len [r.wt]
          have z4 := words_len [r.stt]
          simp only [List.length_cons, List.length_nil] at z1 z2 z3 z4
          have hrw := room_words r
          have hnx := pre_next (p := [houseL hs]) (f := roomL) hr
          have hll : (([houseL hs] ++ (hs.rooms.take k).map roomL).map AV.str).length + 1 ≤ most := by
            simp only [List.length_map, List.length_append, List.length_cons, List.length_nil, List.length_take]
            unfold most
            omega
          have HNX := Lib.hid hnx
          have HRW := Lib.hid hrw
          have HLT0 := Lib.hid hlt
          clear hr hnx hrw hlt q1 q2 q3 q4 q5
          generalize ([houseL hs] ++ (hs.rooms.take k).map roomL).map AV.str = ls at *
          generalize wordsT [r.lo, r.hi] = t1 at *
          generalize wordsT [r.mke] = t2 at *
          generalize wordsT [r.wt] = t3 at *
          generalize wordsT [r.stt] = t4 at *
          repeat' (first | (apply W.drawQ (id := 6) (l1 := [0, 1, 2, 3, 4, 5, 6, 7, 8, 9, 10, 11, 12, 13, 14, 15, 16, 17, 18, 19, 20, 21, 22, 23, 24, 25, 26, 27, 28]) (l2 := [29, 30]); kernel_rfl; kernel_rfl; kernel_rfl; exact Z4) | (apply W.drawQ (id := 10) (l1 := [0, 1, 2, 3, 4, 5, 6, 7, 8, 9, 10, 11, 12, 13, 14, 15, 16]) (l2 := [17, 18]); kernel_rfl; kernel_rfl; kernel_rfl; exact Z4) | (apply W.drawQ (id := 15) (l1 := [0, 1, 2, 3, 4, 5, 6, 7, 8, 9, 10, 11, 12, 13, 14, 15, 16]) (l2 := [17, 18]); kernel_rfl; kernel_rfl; kernel_rfl; exact Z4) | (apply WO1.sadd; exact Z1; exact Z1; exact rfl; (focus (first | omega | (simp only [List.length_append, List.length_cons, List.length_nil]; omega))); simp only [pM, pN]) | (apply WO1.appendN (t := 167) (u := 167) (e := 9) (e' := 9) (sz := 1) (tl := []) (b := 0) (h0 := ⟨0, .nil⟩) (hb := hB) (hx := ⟨Nat.zero_le _, fun id h => absurd h (Nat.not_lt_zero id)⟩); exact Z1; exact rfl; exact Z2; exact Z2; exact Z2; (focus (exact ty_row167)); exact Z1; (focus (intro v hv; simp at hv; first | (subst hv; rfl) | (rcases hv with rfl | rfl <;> rfl))); (focus (simp only [List.length_map, List.length_cons, List.length_nil]; exact hll)); (focus (simp)); (intro v' h' hB' ho' hX'; have hcc' := hB'.blt.cells; have htt' := hB'.blt.tup; simp only [AV.cells] at hcc'; simp only [isTuple] at htt'; simp only [pM, pN])) | refine go1 ?_ | (apply U6; exact Z1; exact Z1; (focus (simp only [List.nil_append, List.append_nil]; first | exact k114a _ | exact k114b _ | exact k114c _ | exact k114d _)); simp only [pM, pN, rR, rP]) | refine go2 (fun hh => ?_) (fun hh => ?_) | fail)
          all_goals refine contV_mk (by first | assumption | exact HLT0.out) (by simp only [keepE, and_true, and_self, go_sem, *, Nat.reduceLT, Int.reduceEq, Int.reduceBEq, Int.reduceLE, Int.reduceLT, Nat.reduceAdd, Nat.reduceBEq, Nat.reduceEqDiff, reduceIte, Nat.reduceLeDiff, Nat.reduceMul, Nat.reduceSub, reduceCtorEq]) (by simp only [keepL, and_true, and_self, go_sem, *, Nat.reduceLT, Int.reduceEq, Int.reduceBEq, Int.reduceLE, Int.reduceLT, Nat.reduceAdd, Nat.reduceBEq, Nat.reduceEqDiff, reduceIte, Nat.reduceLeDiff, Nat.reduceMul, Nat.reduceSub, reduceCtorEq]) ?_
          all_goals refine ⟨v', ?_, ?_, ?_⟩
          all_goals first | exact Z2 | skip
          rw [HNX.out]
          refine hB'.as ?_
          rw [HRW.out]
          simp [wRoom, wMake, wWait, wStart]
        · have hd0 : decide ((k : Int) < ((hs.rooms.length : Nat) : Int)) = false := by simpa using hlt
          obtain rfl : k = hs.rooms.length := by omega
          have e2 : ([houseL hs] ++ (hs.rooms.take hs.rooms.length).map roomL).map AV.str = (pre2 hs ++ (hs.fans.take 0).map fanL).map AV.str := by rw [List.take_length]; unfold pre2; simp
          rw [e2] at hB
          have hbo := hB.blt.out
          clear e2
          repeat' (first | refine goS ?_ | refine go2 (fun hh => ?_) (fun hh => ?_) | fail)
          refine W.loopV (hs.fans.length) [1] [1] (fun j e1 lm1 hp1 => ∃ u2, e1.get 6 = some (.int .i64 ↑j) ∧ e1.get 3 = some (u2) ∧ BltN 0 hp1 u2 1 ((pre2 hs ++ (hs.fans.take j).map fanL).map AV.str)) ?_ ?_
          · skip
            refine ⟨u, ?_, ?_, hB⟩
            all_goals first | exact Z2 | simp [go_sem, *]
          intro j e1 lm1 hp1 hk1 hce hcl hinv
          simp only [keepE, and_true] at hce
          have c1 := hce
          clear hce
          simp only [go_sem, *, Nat.reduceLT, Int.reduceEq, Int.reduceBEq, Int.reduceLE, Int.reduceLT, Nat.reduceAdd, Nat.reduceBEq, Nat.reduceEqDiff, reduceIte, Nat.reduceLeDiff, Nat.reduceMul, Nat.reduceSub, reduceCtorEq] at c1
          simp only [keepL, and_true] at hcl
          have d1 := hcl
          clear hcl
          simp only [go_sem, *, Nat.reduceLT, Int.reduceEq, Int.reduceBEq, Int.reduceLE, Int.reduceLT, Nat.reduceAdd, Nat.reduceBEq, Nat.reduceEqDiff, reduceIte, Nat.reduceLeDiff, Nat.reduceMul, Nat.reduceSub, reduceCtorEq] at d1
          obtain ⟨u2, h6, h3, hB2⟩ := hinv
          by_cases hjt : j < hs.fans.length
          · have hd1 : decide ((j : Int) < ((hs.fans.length : Nat) : Int)) = true := by simpa using hjt
            have hv_1 := wrap_succ hjt (by unfold maxL; omega)
            clear hB hbo
            have hB := hB2
            clear hB2
            have hbo := hB.blt.out
            obtain ⟨r, hr⟩ := get_some hjt
            have hix := fun H => fas_idx H2.out hr H
            have hrk := TX.sm_fan HSM.out (List.mem_of_getElem? hr)
            unfold TX.Fa.ok at hrk
            simp only [Bool.and_eq_true] at hrk
            obtain ⟨q1, q2⟩ := hrk
            have k114a := fun h => K114g (X := dX cZG) rfl [r.room, r.draws] (by simp [smallP_N q1, smallP_N q2]) (by simp) h
            simp only [List.map_cons, List.map_nil] at k114a
            have z1 := words_len [r.room, r.draws]
            simp only [List.length_cons, List.length_nil] at z1
            have hrw := fan_words r
            have hnx := pre_next (p := pre2 hs) (f := fanL) hr
            have hll : ((pre2 hs ++ (hs.fans.take j).map fanL).map AV.str).length + 1 ≤ most := by
              simp only [List.length_map, List.length_append, List.length_cons, List.length_nil, List.length_take, pre2]
              unfold most
              omega
            have HNX := Lib.hid hnx
            have HRW := Lib.hid hrw
            have HLT1 := Lib.hid hjt
            clear hr hnx hjt q1 q2 hrw
            generalize (pre2 hs ++ (hs.fans.take j).map fanL).map AV.str = ls at *
            generalize wordsT [r.room, r.draws] = t1 at *
            repeat' (first | (apply W.drawQ (id := 6) (l1 := [0, 1, 2, 3, 4, 5, 6, 7, 8, 9, 10, 11, 12, 13, 14, 15, 16, 17, 18, 19, 20, 21, 22, 23, 24, 25, 26, 27, 28]) (l2 := [29, 30]); kernel_rfl; kernel_rfl; kernel_rfl; exact Z4) | (apply W.drawQ (id := 10) (l1 := [0, 1, 2, 3, 4, 5, 6, 7, 8, 9, 10, 11, 12, 13, 14, 15, 16]) (l2 := [17, 18]); kernel_rfl; kernel_rfl; kernel_rfl; exact Z4) | (apply W.drawQ (id := 15) (l1 := [0, 1, 2, 3, 4, 5, 6, 7, 8, 9, 10, 11, 12, 13, 14, 15, 16]) (l2 := [17, 18]); kernel_rfl; kernel_rfl; kernel_rfl; exact Z4) | (apply WO1.sadd; exact Z1; exact Z1; exact rfl; (focus (first | omega | (simp only [List.length_append, List.length_cons, List.length_nil]; omega))); simp only [pM, pN]) | (apply WO1.appendN (t := 167) (u := 167) (e := 9) (e' := 9) (sz := 1) (tl := []) (b := 0) (h0 := ⟨0, .nil⟩) (hb := hB) (hx := ⟨Nat.zero_le _, fun id h => absurd h (Nat.not_lt_zero id)⟩); exact Z1; exact rfl; exact Z2; exact Z2; exact Z2; (focus (exact ty_row167)); exact Z1; (focus (intro v hv; simp at hv; first | (subst hv; rfl) | (rcases hv with rfl | rfl <;> rfl))); (focus (simp only [List.length_map, List.length_cons, List.length_nil]; exact hll)); (focus (simp)); (intro v' h' hB' ho' hX'; have hcc' := hB'.blt.cells; have htt' := hB'.blt.tup; simp only [AV.cells] at hcc'; simp only [isTuple] at htt'; simp only [pM, pN])) | refine go1 ?_ | (apply U6; exact Z1; exact Z1; (focus (simp only [List.nil_append, List.append_nil]; first | exact k114a _)); simp only [pM, pN, rR, rP]) | refine go2 (fun hh => ?_) (fun hh => ?_) | fail)
            all_goals refine contV_mk (by first | assumption | exact HLT1.out) (by simp only [keepE, and_true, and_self, go_sem, *, Nat.reduceLT, Int.reduceEq, Int.reduceBEq, Int.reduceLE, Int.reduceLT, Nat.reduceAdd, Nat.reduceBEq, Nat.reduceEqDiff, reduceIte, Nat.reduceLeDiff, Nat.reduceMul, Nat.reduceSub, reduceCtorEq]) (by simp only [keepL, and_true, and_self, go_sem, *, Nat.reduceLT, Int.reduceEq, Int.reduceBEq, Int.reduceLE, Int.reduceLT, Nat.reduceAdd, Nat.reduceBEq, Nat.reduceEqDiff, reduceIte, Nat.reduceLeDiff, Nat.reduceMul, Nat.reduceSub, reduceCtorEq]) ?_
            all_goals refine ⟨v', ?_, ?_, ?_⟩
            all_goals first | exact Z2 | skip
            rw [HNX.out]
            refine hB'.as ?_
            rw [HRW.out]
            simp [wFan]
          · have hd1 : decide ((j : Int) < ((hs.fans.length : Nat) : Int)) = false := by simpa using hjt
            obtain rfl : j = hs.fans.length := by omega
            clear hB hbo
            have hB := hB2
            clear hB2
            have hbo := hB.blt.out
            have hll : ((pre2 hs ++ (hs.fans.take hs.fans.length).map fanL).map AV.str).length + 1 ≤ most := by
              simp only [List.length_map, List.length_append, List.length_cons, List.length_nil, List.length_take, pre2]
              unfold most
              omega
            have e2 : (pre2 hs ++ (hs.fans.take hs.fans.length).map fanL).map AV.str ++ [.str (openL hs)] = (pre3 hs ++ (hs.hands.take 0).map handL).map AV.str := by rw [List.take_length]; unfold pre3; simp
            have E2 := Lib.hid e2
            clear e2
            generalize (pre2 hs ++ (hs.fans.take hs.fans.length).map fanL).map AV.str = ls at *
            repeat' (first | (apply WO1.sadd; exact Z1; exact Z1; exact rfl; (focus (first | omega | (simp only [List.length_append, List.length_cons, List.length_nil]; omega))); simp only [pM, pN]) | (apply WO1.appendN (t := 167) (u := 167) (e := 9) (e' := 9) (sz := 1) (tl := []) (b := 0) (h0 := ⟨0, .nil⟩) (hb := hB) (hx := ⟨Nat.zero_le _, fun id h => absurd h (Nat.not_lt_zero id)⟩); exact Z1; exact rfl; exact Z2; exact Z2; exact Z2; (focus (exact ty_row167)); exact Z1; (focus (intro v hv; simp at hv; first | (subst hv; rfl) | (rcases hv with rfl | rfl <;> rfl))); (focus (simp only [List.length_map, List.length_cons, List.length_nil]; exact hll)); (focus (simp)); (intro v' h' hB' ho' hX'; have hcc' := hB'.blt.cells; have htt' := hB'.blt.tup; simp only [AV.cells] at hcc'; simp only [isTuple] at htt'; simp only [pM, pN])) | refine go1 ?_ | (apply U6; exact Z1; exact Z1; (focus (simp only [List.nil_append, List.append_nil]; first | exact k114o _)); simp only [pM, pN, rR, rP]) | refine go2 (fun hh => ?_) (fun hh => ?_) | fail)
            clear hB hbo hll
            replace hB' := hB'.as (y := openL hs) (by rw [EOW.out]; simp [wOpen])
            rw [E2.out] at hB'
            refine W.loopV (hs.hands.length) [1] [1] (fun i e2 lm2 hp2 => ∃ u3, e2.get 7 = some (.int .i64 ↑i) ∧ e2.get 3 = some (u3) ∧ BltN 0 hp2 u3 1 ((pre3 hs ++ (hs.hands.take i).map handL).map AV.str)) ?_ ?_
            · skip
              refine ⟨v', ?_, ?_, hB'⟩
              all_goals first | exact Z2 | simp [go_sem, *]
            intro i e2 lm2 hp2 hk2 hce hcl hinv
            simp only [keepE, and_true] at hce
            have c1 := hce
            clear hce
            simp only [go_sem, *, Nat.reduceLT, Int.reduceEq, Int.reduceBEq, Int.reduceLE, Int.reduceLT, Nat.reduceAdd, Nat.reduceBEq, Nat.reduceEqDiff, reduceIte, Nat.reduceLeDiff, Nat.reduceMul, Nat.reduceSub, reduceCtorEq] at c1
            simp only [keepL, and_true] at hcl
            have d1 := hcl
            clear hcl
            simp only [go_sem, *, Nat.reduceLT, Int.reduceEq, Int.reduceBEq, Int.reduceLE, Int.reduceLT, Nat.reduceAdd, Nat.reduceBEq, Nat.reduceEqDiff, reduceIte, Nat.reduceLeDiff, Nat.reduceMul, Nat.reduceSub, reduceCtorEq] at d1
            obtain ⟨u3, h7, h3, hB3⟩ := hinv
            by_cases hit : i < hs.hands.length
            · have hd2 : decide ((i : Int) < ((hs.hands.length : Nat) : Int)) = true := by simpa using hit
              have hv_2 := wrap_succ hit (by unfold maxL; omega)
              clear hB' ho' hX' hcc' htt'
              have hB := hB3
              clear hB3
              have hbo := hB.blt.out
              obtain ⟨r, hr⟩ := get_some hit
              have hix := fun H => has_idx H4.out hr H
              have hrk := TX.sm_hand HSM.out (List.mem_of_getElem? hr)
              unfold TX.Ha.ok at hrk
              simp only [Bool.and_eq_true] at hrk
              obtain ⟨q1, q2⟩ := hrk
              have k114a := fun h => K114g (X := dX cZG) rfl [r.limit, r.most] (by simp [smallP_N q1, smallP_N q2]) (by simp) h
              simp only [List.map_cons, List.map_nil] at k114a
              have z1 := words_len [r.limit, r.most]
              simp only [List.length_cons, List.length_nil] at z1
              have hrw := hand_words r
              have hnx := pre_next (p := pre3 hs) (f := handL) hr
              have hll : ((pre3 hs ++ (hs.hands.take i).map handL).map AV.str).length + 1 ≤ most := by
                simp only [List.length_map, List.length_append, List.length_cons, List.length_nil, List.length_take, pre2, pre3]
                unfold most
                omega
              have HNX := Lib.hid hnx
              have HRW := Lib.hid hrw
              have HLT2 := Lib.hid hit
              clear hr hnx hit q1 q2 hrw
              generalize (pre3 hs ++ (hs.hands.take i).map handL).map AV.str = ls at *
              generalize wordsT [r.limit, r.most] = t1 at *
              repeat' (first | (apply W.drawQ (id := 6) (l1 := [0, 1, 2, 3, 4, 5, 6, 7, 8, 9, 10, 11, 12, 13, 14, 15, 16, 17, 18, 19, 20, 21, 22, 23, 24, 25, 26, 27, 28]) (l2 := [29, 30]); kernel_rfl; kernel_rfl; kernel_rfl; exact Z4) | (apply W.drawQ (id := 10) (l1 := [0, 1, 2, 3, 4, 5, 6, 7, 8, 9, 10, 11, 12, 13, 14, 15, 16]) (l2 := [17, 18]); kernel_rfl; kernel_rfl; kernel_rfl; exact Z4) | (apply W.drawQ (id := 15) (l1 := [0, 1, 2, 3, 4, 5, 6, 7, 8, 9, 10, 11, 12, 13, 14, 15, 16]) (l2 := [17, 18]); kernel_rfl; kernel_rfl; kernel_rfl; exact Z4) | (apply WO1.sadd; exact Z1; exact Z1; exact rfl; (focus (first | omega | (simp only [List.length_append, List.length_cons, List.length_nil]; omega))); simp only [pM, pN]) | (apply WO1.appendN (t := 167) (u := 167) (e := 9) (e' := 9) (sz := 1) (tl := []) (b := 0) (h0 := ⟨0, .nil⟩) (hb := hB) (hx := ⟨Nat.zero_le _, fun id h => absurd h (Nat.not_lt_zero id)⟩); exact Z1; exact rfl; exact Z2; exact Z2; exact Z2; (focus (exact ty_row167)); exact Z1; (focus (intro v hv; simp at hv; first | (subst hv; rfl) | (rcases hv with rfl | rfl <;> rfl))); (focus (simp only [List.length_map, List.length_cons, List.length_nil]; exact hll)); (focus (simp)); (intro v' h' hB' ho' hX'; have hcc' := hB'.blt.cells; have htt' := hB'.blt.tup; simp only [AV.cells] at hcc'; simp only [isTuple] at htt'; simp only [pM, pN])) | refine go1 ?_ | (apply U6; exact Z1; exact Z1; (focus (simp only [List.nil_append, List.append_nil]; first | exact k114a _)); simp only [pM, pN, rR, rP]) | refine go2 (fun hh => ?_) (fun hh => ?_) | fail)
              all_goals refine contV_mk (by first | assumption | exact HLT2.out) (by simp only [keepE, and_true, and_self, go_sem, *, Nat.reduceLT, Int.reduceEq, Int.reduceBEq, Int.reduceLE, Int.reduceLT, Nat.reduceAdd, Nat.reduceBEq, Nat.reduceEqDiff, reduceIte, Nat.reduceLeDiff, Nat.reduceMul, Nat.reduceSub, reduceCtorEq]) (by simp only [keepL, and_true, and_self, go_sem, *, Nat.reduceLT, Int.reduceEq, Int.reduceBEq, Int.reduceLE, Int.reduceLT, Nat.reduceAdd, Nat.reduceBEq, Nat.reduceEqDiff, reduceIte, Nat.reduceLeDiff, Nat.reduceMul, Nat.reduceSub, reduceCtorEq]) ?_
              all_goals refine ⟨v', ?_, ?_, ?_⟩
              all_goals first | exact Z2 | skip
              rw [HNX.out]
              refine hB'.as ?_
              rw [HRW.out]
              simp [wHand]
            · have hd2 : decide ((i : Int) < ((hs.hands.length : Nat) : Int)) = false := by simpa using hit
              obtain rfl : i = hs.hands.length := by omega
              clear hB' ho' hX' hcc' htt'
              have hB := hB3
              clear hB3
              rw [List.take_length, ← lines_pre] at hB
              have hbo := hB.blt.out
              have hlu := hB.blt.len
              rw [List.length_map] at hlu
              have hfl : (flatT (linesH hs)).length ≤ 40000 := by
                have h1 := congrArg List.length HTX.out
                rw [List.length_append] at h1
                omega
              generalize linesH hs = L at *
              have hLn : L.length ≤ 2000 := by have := HLC.out; omega
              repeat' (first | refine goS ?_ | refine go2 (fun hh => ?_) (fun hh => ?_) | fail)
              refine W.loopH (L.length) [3] [] (fun m e3 lm3 => e3.get 10 = some (.int .i64 ↑m) ∧ e3.get 9 = some (.int .i64 ↑(ck (L.take m))) ∧ e3.get 8 = some (.str (flatT (L.take m)))) ?_ ?_
              · refine ⟨?_, ?_, ?_⟩ <;> first | exact Z2 | rfl | assumption | (simp [ck,flatT,go_sem, *, Nat.reduceLT, Int.reduceEq, Int.reduceBEq, Int.reduceLE, Int.reduceLT, Nat.reduceAdd, Nat.reduceBEq, Nat.reduceEqDiff, reduceIte, Nat.reduceLeDiff, Nat.reduceMul, Nat.reduceSub, reduceCtorEq]) | (simp [go_sem, *]; done)
              intro m e3 lm3 hk3 hce hcl hinv
              simp only [keepE, and_true] at hce
              have c3 := hce
              clear hce
              simp only [go_sem, *, Nat.reduceLT, Int.reduceEq, Int.reduceBEq, Int.reduceLE, Int.reduceLT, Nat.reduceAdd, Nat.reduceBEq, Nat.reduceEqDiff, reduceIte, Nat.reduceLeDiff, Nat.reduceMul, Nat.reduceSub, reduceCtorEq] at c3
              clear hcl
              obtain ⟨h10, h9, h8⟩ := hinv
              by_cases hmt : m < L.length
              · have hd3 : decide ((m : Int) < ((L.length : Nat) : Int)) = true := by simpa using hmt
                have hv_3 := wrap_succ hmt (by unfold maxL; omega)
                obtain ⟨l, hl'⟩ := get_some hmt
                obtain ⟨id, hia, hgi, hgl⟩ := row_str hB hl'
                have hll := HD2.out l (List.mem_of_getElem? hl')
                have hck := ck_next hl'
                have hfn := flatT_next hl'
                have hft := flatT_take L m
                have hb1 := ck_take_le HD2.out (by omega) m
                have HCK := Lib.hid hck
                have HFN := Lib.hid hfn
                have HLT3 := Lib.hid hmt
                have HB0 := Lib.hid hB
                clear hl' hck hfn hmt hB
                generalize hcq : ck (L.take (m + 1)) = cq at *
                have HCQ := Lib.hid hcq
                clear hcq
                generalize ck (L.take m) = c0 at *
                generalize flatT (L.take m) = ft at *
                repeat' (first | refine goS ?_ | refine go2 (fun hh => ?_) (fun hh => ?_) | fail)
                refine W.loopH (l.length) [3, 8, 10] [] (fun n e4 lm4 => e4.get 11 = some (.int .i64 ↑n) ∧ e4.get 9 = some (.int .i64 ↑(c0 + ck1 0 (l.take n)))) ?_ ?_
                · refine ⟨?_, ?_⟩ <;> first | exact Z2 | rfl | assumption | (simp [ck1,go_sem, *, Nat.reduceLT, Int.reduceEq, Int.reduceBEq, Int.reduceLE, Int.reduceLT, Nat.reduceAdd, Nat.reduceBEq, Nat.reduceEqDiff, reduceIte, Nat.reduceLeDiff, Nat.reduceMul, Nat.reduceSub, reduceCtorEq]) | (simp [go_sem, *]; done)
                intro n e4 lm4 hk4 hce hcl hinv
                simp only [keepE, and_true] at hce
                obtain ⟨c3, c8, c10⟩ := hce
                simp only [go_sem, *, Nat.reduceLT, Int.reduceEq, Int.reduceBEq, Int.reduceLE, Int.reduceLT, Nat.reduceAdd, Nat.reduceBEq, Nat.reduceEqDiff, reduceIte, Nat.reduceLeDiff, Nat.reduceMul, Nat.reduceSub, reduceCtorEq] at c3 c8 c10
                clear hcl
                obtain ⟨h11, h9⟩ := hinv
                by_cases hnt : n < l.length
                · have hd4 : decide ((n : Int) < ((l.length : Nat) : Int)) = true := by simpa using hnt
                  have hv_4 := wrap_succ hnt (by unfold maxL; omega)
                  obtain ⟨b, hb'⟩ := get_some hnt
                  have hij := idx_j hnt
                  have hbt := b.toNat_lt
                  have hn1 := ck1_next hb'
                  have hb2 := ck1_take_le hll n
                  have hb3 := ck1_take_le hll (n + 1)
                  have hm1 : b.toNat * (n + 1) ≤ 255 * 4000 := Nat.mul_le_mul (by omega) (by omega)
                  have w1 : IntKind.i64.wrap ((b.toNat : Nat) : Int) = ((b.toNat : Nat) : Int) := wrap_small (by omega) (by omega)
                  have w3 : IntKind.i64.wrap (((b.toNat : Nat) : Int) * ((n + 1 : Nat) : Int)) = ((b.toNat * (n + 1) : Nat) : Int) := by
                    rw [← Int.natCast_mul, wrap_small (by omega) (by omega)]
                  have w6 : IntKind.i64.wrap (((c0 + ck1 0 (l.take n) : Nat) : Int) + ((b.toNat * (n + 1) : Nat) : Int)) = ((c0 + ck1 0 (l.take (n + 1)) : Nat) : Int) := by
                    rw [hn1] at hb3 ⊢
                    rw [← Int.natCast_add, wrap_small (by omega) (by omega), Nat.add_assoc]
                  have HLT4 := Lib.hid hnt
                  clear hbt hn1 hb2 hb3 hm1 hnt
                  generalize hy1 : ((c0 + ck1 0 (l.take (n + 1)) : Nat) : Int) = y1 at *
                  have HY1 := Lib.hid hy1
                  clear hy1
                  generalize ((c0 + ck1 0 (l.take n) : Nat) : Int) = y0 at *
                  generalize ((b.toNat * (n + 1) : Nat) : Int) = y3 at *
                  repeat' (first | refine goS ?_ | refine go2 (fun hh => ?_) (fun hh => ?_) | fail)
                  all_goals refine contH_mk (by first | assumption | exact HLT4.out) (by simp only [keepE, and_true, and_self, go_sem, *, Nat.reduceLT, Int.reduceEq, Int.reduceBEq, Int.reduceLE, Int.reduceLT, Nat.reduceAdd, Nat.reduceBEq, Nat.reduceEqDiff, reduceIte, Nat.reduceLeDiff, Nat.reduceMul, Nat.reduceSub, reduceCtorEq]) (by simp only [keepL, and_true, and_self, go_sem, *, Nat.reduceLT, Int.reduceEq, Int.reduceBEq, Int.reduceLE, Int.reduceLT, Nat.reduceAdd, Nat.reduceBEq, Nat.reduceEqDiff, reduceIte, Nat.reduceLeDiff, Nat.reduceMul, Nat.reduceSub, reduceCtorEq]) ?_
                  all_goals refine ⟨?_, ?_⟩
                  all_goals first | exact Z2 | skip
                  rw [HY1.out]
                  simp only [go_sem, *, Nat.reduceLT, Int.reduceEq, Int.reduceBEq, Int.reduceLE, Int.reduceLT, Nat.reduceAdd, Nat.reduceBEq, Nat.reduceEqDiff, reduceIte, Nat.reduceLeDiff, Nat.reduceMul, Nat.reduceSub, reduceCtorEq]
                · have hd4 : decide ((n : Int) < ((l.length : Nat) : Int)) = false := by simpa using hnt
                  obtain rfl : n = l.length := by omega
                  rw [List.take_length] at h9
                  have hc1 : c0 + ck1 0 l = cq := HCK.out.symm
                  rw [hc1] at h9
                  repeat' (first | (apply WO1.sadd; exact Z1; exact Z1; exact rfl; (focus (first | omega | (simp only [List.length_append, List.length_cons, List.length_nil]; omega))); simp only [pM, pN]) | refine go1 ?_ | refine go2 (fun hh => ?_) (fun hh => ?_) | fail)
                  all_goals refine contH_mk HLT3.out (by simp only [keepE, and_true, and_self, go_sem, *, Nat.reduceLT, Int.reduceEq, Int.reduceBEq, Int.reduceLE, Int.reduceLT, Nat.reduceAdd, Nat.reduceBEq, Nat.reduceEqDiff, reduceIte, Nat.reduceLeDiff, Nat.reduceMul, Nat.reduceSub, reduceCtorEq]) (by simp only [keepL, and_true, and_self, go_sem, *, Nat.reduceLT, Int.reduceEq, Int.reduceBEq, Int.reduceLE, Int.reduceLT, Nat.reduceAdd, Nat.reduceBEq, Nat.reduceEqDiff, reduceIte, Nat.reduceLeDiff, Nat.reduceMul, Nat.reduceSub, reduceCtorEq]) ?_
                  all_goals refine ⟨?_, ?_, ?_⟩
                  · simp only [go_sem, *, Nat.reduceLT, Int.reduceEq, Int.reduceBEq, Int.reduceLE, Int.reduceLT, Nat.reduceAdd, Nat.reduceBEq, Nat.reduceEqDiff, reduceIte, Nat.reduceLeDiff, Nat.reduceMul, Nat.reduceSub, reduceCtorEq]
                  · rw [HCQ.out]
                    simp only [go_sem, *, Nat.reduceLT, Int.reduceEq, Int.reduceBEq, Int.reduceLE, Int.reduceLT, Nat.reduceAdd, Nat.reduceBEq, Nat.reduceEqDiff, reduceIte, Nat.reduceLeDiff, Nat.reduceMul, Nat.reduceSub, reduceCtorEq]
                  · rw [HFN.out]
                    simp only [go_sem, *, Nat.reduceLT, Int.reduceEq, Int.reduceBEq, Int.reduceLE, Int.reduceLT, Nat.reduceAdd, Nat.reduceBEq, Nat.reduceEqDiff, reduceIte, Nat.reduceLeDiff, Nat.reduceMul, Nat.reduceSub, reduceCtorEq, List.append_assoc]
              · have hd3 : decide ((m : Int) < ((L.length : Nat) : Int)) = false := by simpa using hmt
                obtain rfl : m = L.length := by omega
                rw [List.take_length] at h9 h8
                have hcb := ck_take_le HD2.out (by omega) L.length
                rw [List.take_length] at hcb
                have b107 : ((107 : Int) == 0) = false := rfl
                have b100 : ((100 : Int) == 0) = false := rfl
                have b10 : ((10 : Int) == 0) = false := rfl
                generalize hcc : ck L % 107 = cc at *
                have hc7 : cc < 107 := by rw [← hcc]; exact Nat.mod_lt _ (by decide)
                have m1 : ((ck L : Nat) : Int).tmod 107 = (cc : Int) := by rw [Int.tmod_eq_emod_of_nonneg (by omega)]; omega
                have m2 : ((cc : Nat) : Int).tdiv 100 = ((cc / 100 : Nat) : Int) := by rw [Int.tdiv_eq_ediv_of_nonneg (by omega)]; omega
                have m3 : ((cc : Nat) : Int).tdiv 10 = ((cc / 10 : Nat) : Int) := by rw [Int.tdiv_eq_ediv_of_nonneg (by omega)]; omega
                have m4 : ((cc / 10 : Nat) : Int).tmod 10 = ((cc / 10 % 10 : Nat) : Int) := by rw [Int.tmod_eq_emod_of_nonneg (by omega)]; omega
                have m5 : ((cc : Nat) : Int).tmod 10 = ((cc % 10 : Nat) : Int) := by rw [Int.tmod_eq_emod_of_nonneg (by omega)]; omega
                have m6 : IntKind.i64.wrap ((cc / 100 : Nat) : Int) = ((cc / 100 : Nat) : Int) := wrap_small (by omega) (by omega)
                have m7 : IntKind.i64.wrap ((cc / 10 : Nat) : Int) = ((cc / 10 : Nat) : Int) := wrap_small (by omega) (by omega)
                have k115a := fun h => K115 (X := dX cZG) rfl ((cc / 100 : Nat) : Int) (by omega) (by omega) h
                have k115b := fun h => K115 (X := dX cZG) rfl ((cc / 10 % 10 : Nat) : Int) (by omega) (by omega) h
                have k115c := fun h => K115 (X := dX cZG) rfl ((cc % 10 : Nat) : Int) (by omega) (by omega) h
                have i1 := itoa_len ((cc / 100 : Nat) : Int)
                have i2 := itoa_len ((cc / 10 % 10 : Nat) : Int)
                have i3 := itoa_len ((cc % 10 : Nat) : Int)
                have hend : endL cc = [101, 110, 100, 32] ++ itoaF ((cc / 100 : Nat) : Int) ++ itoaF ((cc / 10 % 10 : Nat) : Int) ++ itoaF ((cc % 10 : Nat) : Int) := rfl
                have HEND := Lib.hid hend
                clear hend hmt hcb hcc hc7 hLn hB
                generalize itoaF ((cc / 100 : Nat) : Int) = t1' at *
                generalize itoaF ((cc / 10 % 10 : Nat) : Int) = t2' at *
                generalize itoaF ((cc % 10 : Nat) : Int) = t3' at *
                generalize ((cc / 100 : Nat) : Int) = c100 at *
                generalize ((cc / 10 % 10 : Nat) : Int) = c10 at *
                generalize ((cc / 10 : Nat) : Int) = c11 at *
                generalize ((cc % 10 : Nat) : Int) = c12 at *
                generalize ((cc : Nat) : Int) = cI at *
                generalize ((ck L : Nat) : Int) = cL at *
                generalize flatT L = fL at *
                rw [HTX.out, HEND.out]
                repeat' (first | (apply WO1.sadd; exact Z1; exact Z1; exact rfl; (focus (first | omega | (simp only [List.length_append, List.length_cons, List.length_nil]; omega))); simp only [pM, pN]) | refine go1 ?_ | (apply U6; exact Z1; exact Z1; (focus (simp only [List.nil_append, List.append_nil]; first | exact k115a _ | exact k115b _ | exact k115c _)); simp only [pM, pN, rR, rP]) | refine go2 (fun hh => ?_) (fun hh => ?_) | fail)
                all_goals simp only [resV_def (X := dX cZG) Tryz.func42, Tryz.results42, resultsV, resultV, go_sem, *, Nat.reduceLT, Int.reduceEq, Int.reduceBEq, Int.reduceLE, Int.reduceLT, Nat.reduceAdd, Nat.reduceBEq, Nat.reduceEqDiff, reduceIte, Nat.reduceLeDiff, Nat.reduceMul, Nat.reduceSub, reduceCtorEq, frzRes, dFrz, frzCells, isRet_ret, tupleOf]
                all_goals simp
      · cases h
    · cases h
  · cases h
theorem F42 : IntrFn Tryz.prog 42 (flatFnD sp110) := flatD_fn (X := dX cZG) cZG_sound p110 R42
theorem K42 {X : Ctx} (hX : X.intr 42 = some (flatFnD sp110)) {ra fa oa ha : AV} {m : Hs} {h : Heap} (h1 : SeeV h rmC ra m.rooms) (h2 : SeeV h faC fa m.fans) (h3 : SeeV h intC oa m.op) (h4 : SeeV h haC ha m.hands) (hok : okT m = true) :
    Cl X 42 [.agg [.int .i64 m.hours, ra, fa, oa, ha]] h (.ret (.str (textH m)) h none) := by
  obtain ⟨ra', v1, s1⟩ := h1
  obtain ⟨fa', v2, s2⟩ := h2
  obtain ⟨oa', v3, s3⟩ := h3
  obtain ⟨ha', v4, s4⟩ := h4
  exact Cl.intr hX (by simp only [flatFnD, viewDs, viewD_hs v1 v2 v3 v4, sp110, hsV, s1, s2, s3, s4, hok, if_true])
end Go.AM
set_option linter.unusedSectionVars false
set_option linter.unusedVariables false
set_option linter.unusedSimpArgs false
set_option maxRecDepth 100000
namespace Go.AM
open Go Go.Proofs
variable [Keep]
attribute [local irreducible] W WO WO1 WD WQ WT thenQ blockQ endR isRet retK Cl ClR
open Go.TX (Rm Fa Ha Hs)
def sp34 : List AV → Option AV
  | [a, b] => match slV intC a, slV intC b with
    | some l, some r => some (.bool (decide (l = r)))
    | _, _ => none
  | _ => none
theorem p34 : ∀ args v, sp34 args = some v → v.flat = true := by
  intro args v h
  unfold sp34 at h
  split at h
  · split at h
    · cases h; rfl
    · cases h
  · cases h
set_option maxHeartbeats 1000000 in
theorem R34 : ∀ args v, sp34 args = some v → ClR (dX i0) 34 args emptyHp (isRet v) := by
  intro args v h
  unfold sp34 at h
  split at h
  · rename_i a b
    split at h
    · rename_i l r hl hr
      have h := Option.some.inj h
      subst h
      have l1 := sl_len hl
      have o1 := sl_out hl
      have m1 := sl_max hl
      have l2 := sl_len hr
      have o2 := sl_out hr
      have HL := Lib.hid hl
      have HR := Lib.hid hr
      clear hl hr
      by_cases hlen : l.length = r.length
      · have hq : ((l.length : Int) != (r.length : Int)) = false := by simp; omega
        have HLEN := Lib.hid hlen
        clear hlen
        refine ClR.walk (c := _) rfl Tryz.func34 rfl (by kernel_rfl) rfl isRet_fail ?_
        simp only [entryEnv, Nat.reduceAdd]
        repeat' (first | refine goS ?_ | refine go2 (fun hh => ?_) (fun hh => ?_) | fail)
        clear hq
        refine W.loopH (l.length) [0, 1] [] (fun k e lm => e.get 5 = some (.int .i64 ↑k) ∧ l.take k = r.take k) ?_ ?_
        · refine ⟨?_, ?_⟩ <;> first | exact Z2 | rfl | assumption | (simp [go_sem, *]; done)
        intro k e lm hk0 hce hcl hinv
        simp only [keepE, and_true] at hce
        obtain ⟨c0, c1⟩ := hce
        simp only [go_sem, *, Nat.reduceLT, Int.reduceEq, Int.reduceBEq, Int.reduceLE, Int.reduceLT, Nat.reduceAdd, Nat.reduceBEq, Nat.reduceEqDiff, reduceIte, Nat.reduceLeDiff, Nat.reduceMul, Nat.reduceSub, reduceCtorEq] at c0 c1
        clear hcl
        obtain ⟨h5, heq⟩ := hinv
        by_cases hlt : k < l.length
        · have hd0 : decide ((k : Int) < ((l.length : Nat) : Int)) = true := by simpa using hlt
          have hv_0 := wrap_succ hlt m1
          obtain ⟨p, hp⟩ := get_some hlt
          obtain ⟨q, hq⟩ := get_some (l := r) (k := k) (by have := HLEN.out; omega)
          have hix := fun H => ints_idx HL.out hp H
          have hix2 := fun H => ints_idx HR.out hq H
          have HEQ := Lib.hid heq
          have HP := Lib.hid hp
          have HQ := Lib.hid hq
          have HLT0 := Lib.hid hlt
          clear heq hp hq hlt
          by_cases hpq : p = q
          · have hn : (p != q) = false := by simp [hpq]
            have HPQ := Lib.hid hpq
            clear hpq
            repeat' (first | (apply W.drawQ (id := 6) (l1 := [0, 1, 2, 3, 4, 5, 6, 7, 8]) (l2 := []); kernel_rfl; kernel_rfl; kernel_rfl; exact Z4) | refine go1 ?_ | refine go2 (fun hh => ?_) (fun hh => ?_) | fail)
            all_goals refine contH_mk (by first | assumption | exact HLT0.out) (by simp only [keepE, and_true, and_self, go_sem, *, Nat.reduceLT, Int.reduceEq, Int.reduceBEq, Int.reduceLE, Int.reduceLT, Nat.reduceAdd, Nat.reduceBEq, Nat.reduceEqDiff, reduceIte, Nat.reduceLeDiff, Nat.reduceMul, Nat.reduceSub, reduceCtorEq]) (by simp only [keepL, and_true, and_self, go_sem, *, Nat.reduceLT, Int.reduceEq, Int.reduceBEq, Int.reduceLE, Int.reduceLT, Nat.reduceAdd, Nat.reduceBEq, Nat.reduceEqDiff, reduceIte, Nat.reduceLeDiff, Nat.reduceMul, Nat.reduceSub, reduceCtorEq]) ?_
            all_goals refine ⟨?_, ?_⟩
            all_goals first | exact Z2 | skip
            rw [take_next HP.out, take_next HQ.out, HEQ.out, HPQ.out]
          · have hn : (p != q) = true := by simp [hpq]
            have hne : decide (l = r) = false := by
              simp only [decide_eq_false_iff_not]
              intro e
              have h1 := HP.out
              rw [e, HQ.out] at h1
              exact hpq (Option.some.inj h1).symm
            rw [hne]
            clear hpq hne
            repeat' (first | (apply W.drawQ (id := 6) (l1 := [0, 1, 2, 3, 4, 5, 6, 7, 8]) (l2 := []); kernel_rfl; kernel_rfl; kernel_rfl; exact Z4) | refine go1 ?_ | refine go2 (fun hh => ?_) (fun hh => ?_) | fail)
            all_goals simp only [resV_def (X := dX i0) Tryz.func34, Tryz.results34, resultsV, resultV, go_sem, *, Nat.reduceLT, Int.reduceEq, Int.reduceBEq, Int.reduceLE, Int.reduceLT, Nat.reduceAdd, Nat.reduceBEq, Nat.reduceEqDiff, reduceIte, Nat.reduceLeDiff, Nat.reduceMul, Nat.reduceSub, reduceCtorEq, frzRes, dFrz, frzCells, isRet_ret, tupleOf]
        · have hd0 : decide ((k : Int) < ((l.length : Nat) : Int)) = false := by simpa using hlt
          obtain rfl : k = l.length := by omega
          have hey : decide (l = r) = true := by
            rw [List.take_length] at heq
            have h2 : r.take l.length = r := by rw [HLEN.out, List.take_length]
            rw [h2] at heq
            simpa using heq
          rw [hey]
          clear heq hey
          repeat' (first | refine goS ?_ | refine go2 (fun hh => ?_) (fun hh => ?_) | fail)
          all_goals simp only [resV_def (X := dX i0) Tryz.func34, Tryz.results34, resultsV, resultV, go_sem, *, Nat.reduceLT, Int.reduceEq, Int.reduceBEq, Int.reduceLE, Int.reduceLT, Nat.reduceAdd, Nat.reduceBEq, Nat.reduceEqDiff, reduceIte, Nat.reduceLeDiff, Nat.reduceMul, Nat.reduceSub, reduceCtorEq, frzRes, dFrz, frzCells, isRet_ret, tupleOf]
      · have hq : ((l.length : Int) != (r.length : Int)) = true := by simp; omega
        have hne : decide (l = r) = false := by
          simp only [decide_eq_false_iff_not]
          intro e
          exact hlen (by rw [e])
        rw [hne]
        clear hlen hne
        refine ClR.walk (c := _) rfl Tryz.func34 rfl (by kernel_rfl) rfl isRet_fail ?_
        simp only [entryEnv, Nat.reduceAdd]
        repeat' (first | refine goS ?_ | refine go2 (fun hh => ?_) (fun hh => ?_) | fail)
        all_goals simp only [resV_def (X := dX i0) Tryz.func34, Tryz.results34, resultsV, resultV, go_sem, *, Nat.reduceLT, Int.reduceEq, Int.reduceBEq, Int.reduceLE, Int.reduceLT, Nat.reduceAdd, Nat.reduceBEq, Nat.reduceEqDiff, reduceIte, Nat.reduceLeDiff, Nat.reduceMul, Nat.reduceSub, reduceCtorEq, frzRes, dFrz, frzCells, isRet_ret, tupleOf]
    · cases h
  · cases h
theorem F34 : IntrFn Tryz.prog 34 (flatFnD sp34) := flatD_fn (X := dX i0) i0_sound p34 R34
theorem K34 {X : Ctx} (hX : X.intr 34 = some (flatFnD sp34)) {a b : AV} {l r : List Int} {h : Heap} (h1 : SeeV h intC a l) (h2 : SeeV h intC b r) : Cl X 34 [a, b] h (.ret (.bool (decide (l = r))) h none) := by
  obtain ⟨a', v1, s1⟩ := h1
  obtain ⟨b', v2, s2⟩ := h2
  have e : ∀ {x y : AV} {α : Type} {c : Cd α} {l : List α}, viewV h x = some y → slV c y = some l → viewD h x = some y := fun {x y α c l} q s => by
    unfold viewD
    split
    · simp only [viewV] at q
      split at q
      · cases q; simp [slV] at s
      · cases q
    · exact q
  exact Cl.intr hX (by simp only [flatFnD, viewDs, e v1 s1, e v2 s2, sp34, s1, s2])
theorem neq136 (a b c d e : Int) : binV Tryz.prog .neq 136 false (.agg [.int .i64 a, .int .i64 b, .int .i64 c, .int .i64 d, .int .i64 e]) (.agg [.int .i64 a, .int .i64 b, .int .i64 c, .int .i64 d, .int .i64 e]) = some (.bool false) := by
  have h1 : Tryz.prog.eqGuardType Tryz.prog.depth 136 = false := by kernel_rfl
  have h2 : Tryz.prog.stoodInHeld 136 = false := by kernel_rfl
  have h3 : Tryz.prog.stoodInHeld 56 = false := by kernel_rfl
  simp only [binV, eqOp, eqV, h1, Bool.false_eq_true, if_false, eqDepth, eqT, Tryz.underlying136, h2, eqFields]
  simp [eqFields, readT, ty_lay56, ty_lay3, readAt, Tryz.underlying3, Tryz.underlying56, h3]
theorem neq103 (a b : Int) : binV Tryz.prog .neq 103 false (.agg [.int .i64 a, .int .i64 b]) (.agg [.int .i64 a, .int .i64 b]) = some (.bool false) := by
  have h1 : Tryz.prog.eqGuardType Tryz.prog.depth 103 = false := by kernel_rfl
  have h2 : Tryz.prog.stoodInHeld 103 = false := by kernel_rfl
  simp only [binV, eqOp, eqV, h1, Bool.false_eq_true, if_false, eqDepth, eqT, Tryz.underlying103, h2, eqFields]
  simp [eqFields, readT, ty_lay3, readAt, Tryz.underlying3]
theorem neq106 (a b : Int) : binV Tryz.prog .neq 106 false (.agg [.int .i64 a, .int .i64 b]) (.agg [.int .i64 a, .int .i64 b]) = some (.bool false) := by
  have h1 : Tryz.prog.eqGuardType Tryz.prog.depth 106 = false := by kernel_rfl
  have h2 : Tryz.prog.stoodInHeld 106 = false := by kernel_rfl
  simp only [binV, eqOp, eqV, h1, Bool.false_eq_true, if_false, eqDepth, eqT, Tryz.underlying106, h2, eqFields]
  simp [eqFields, readT, ty_lay3, readAt, Tryz.underlying3]
open Classical in
noncomputable def sp43 : List AV → Option AV
  | [x, y] => match hsV x with
    | some m => if hsV y = some m then some (.bool true) else none
    | none => none
  | _ => none
theorem p43 : ∀ args v, sp43 args = some v → v.flat = true := by
  intro args v h
  unfold sp43 at h
  split at h
  · split at h
    · split at h
      · cases h; rfl
      · cases h
    · cases h
  · cases h
noncomputable def cZI : FuncId → Option (List AV → Heap → Option (AV × Heap))
  | 34 => some (flatFnD sp34)
  | _ => none
theorem cZI_sound : Sound (dX cZI) := dX_sound (fun f g h => by
  unfold cZI at h
  split at h
  · cases h; exact F34
  · cases h)
set_option maxHeartbeats 4000000 in
theorem R43 : ∀ args v, sp43 args = some v → ClR (dX cZI) 43 args emptyHp (isRet v) := by
  intro args v h
  unfold sp43 at h
  split at h
  · rename_i x y
    split at h
    · rename_i m hx
      split at h
      · rename_i hy
        have h := Option.some.inj h
        subst h
        obtain ⟨ra, fa, oa, ha, rfl, v1, v2, v3, v4⟩ := hsV_is hx
        obtain ⟨rb, fb, ob, hb, rfl, w1, w2, w3, w4⟩ := hsV_is hy
        have l1 := sl_len v1
        have l2 := sl_len v2
        have l4 := sl_len v4
        have o1 := sl_out v1
        have o2 := sl_out v2
        have o3 := sl_out v3
        have o4 := sl_out v4
        have l5 := sl_len w1
        have l6 := sl_len w2
        have l8 := sl_len w4
        have o5 := sl_out w1
        have o6 := sl_out w2
        have o7 := sl_out w3
        have o8 := sl_out w4
        have m1 := sl_max v1
        have m2 := sl_max v2
        have m4 := sl_max v4
        have k34 := fun h => K34 (X := dX cZI) rfl (SeeV.of v3 h) (SeeV.of w3 h)
        have hdt : decide (m.op = m.op) = true := by simp
        rw [hdt] at k34
        have V1 := Lib.hid v1
        have V2 := Lib.hid v2
        have V4 := Lib.hid v4
        have W1 := Lib.hid w1
        have W2 := Lib.hid w2
        have W4 := Lib.hid w4
        have hq : ∀ n : Int, (n != n) = false := fun n => by simp
        have n136 := neq136
        have n103 := neq103
        have n106 := neq106
        clear v1 v2 v3 v4 w1 w2 w3 w4 hx hy hdt
        refine ClR.walk (c := _) rfl Tryz.func43 rfl (by kernel_rfl) rfl isRet_fail ?_
        simp only [entryEnv, Nat.reduceAdd]
        repeat' (first | refine goS ?_ | (apply U6; exact Z1; exact Z1; (focus (simp only [List.nil_append, List.append_nil]; first | exact k34 _)); simp only [pM, pN, rR, rP]) | refine go2 (fun hh => ?_) (fun hh => ?_) | fail)
        refine W.loopH (m.rooms.length) [2, 3] [2, 3] (fun k e lm => e.get 5 = some (.int .i64 ↑k)) ?_ ?_
        · first | exact Z2 | rfl | assumption | (simp [go_sem, *]; done)
        intro k e lm hk0 hce hcl hinv
        simp only [keepE, and_true] at hce
        obtain ⟨c2, c3⟩ := hce
        simp only [go_sem, *, Nat.reduceLT, Int.reduceEq, Int.reduceBEq, Int.reduceLE, Int.reduceLT, Nat.reduceAdd, Nat.reduceBEq, Nat.reduceEqDiff, reduceIte, Nat.reduceLeDiff, Nat.reduceMul, Nat.reduceSub, reduceCtorEq] at c2 c3
        simp only [keepL, and_true] at hcl
        obtain ⟨d2, d3⟩ := hcl
        simp only [go_sem, *, Nat.reduceLT, Int.reduceEq, Int.reduceBEq, Int.reduceLE, Int.reduceLT, Nat.reduceAdd, Nat.reduceBEq, Nat.reduceEqDiff, reduceIte, Nat.reduceLeDiff, Nat.reduceMul, Nat.reduceSub, reduceCtorEq] at d2 d3
        have h5 := hinv
        clear hinv
        by_cases hlt : k < m.rooms.length
        · have hd0 : decide ((k : Int) < ((m.rooms.length : Nat) : Int)) = true := by simpa using hlt
          have hv_0 := wrap_succ hlt m1
          obtain ⟨p, hp⟩ := get_some hlt
          have hix := fun H => rms_idx V1.out hp H
          have hix2 := fun H => rms_idx W1.out hp H
          have HLT0 := Lib.hid hlt
          clear hp hlt
          repeat' (first | (apply W.drawQ (id := 6) (l1 := [0, 1, 2, 3, 4, 5, 6, 7, 8, 9, 10]) (l2 := []); kernel_rfl; kernel_rfl; kernel_rfl; exact Z4) | (apply W.drawQ (id := 11) (l1 := [0, 1, 2, 3, 4, 5, 6, 7, 8, 9, 10]) (l2 := []); kernel_rfl; kernel_rfl; kernel_rfl; exact Z4) | (apply W.drawQ (id := 16) (l1 := [0, 1, 2, 3, 4, 5, 6, 7, 8, 9, 10]) (l2 := []); kernel_rfl; kernel_rfl; kernel_rfl; exact Z4) | refine go1 ?_ | (apply U6; exact Z1; exact Z1; (focus (simp only [List.nil_append, List.append_nil]; first | exact k34 _)); simp only [pM, pN, rR, rP]) | refine go2 (fun hh => ?_) (fun hh => ?_) | fail)
          all_goals refine contH_mk (by first | assumption | exact HLT0.out) (by simp only [keepE, and_true, and_self, go_sem, *, Nat.reduceLT, Int.reduceEq, Int.reduceBEq, Int.reduceLE, Int.reduceLT, Nat.reduceAdd, Nat.reduceBEq, Nat.reduceEqDiff, reduceIte, Nat.reduceLeDiff, Nat.reduceMul, Nat.reduceSub, reduceCtorEq]) (by simp only [keepL, and_true, and_self, go_sem, *, Nat.reduceLT, Int.reduceEq, Int.reduceBEq, Int.reduceLE, Int.reduceLT, Nat.reduceAdd, Nat.reduceBEq, Nat.reduceEqDiff, reduceIte, Nat.reduceLeDiff, Nat.reduceMul, Nat.reduceSub, reduceCtorEq]) ?_
          all_goals first | exact Z2 | skip
        · have hd0 : decide ((k : Int) < ((m.rooms.length : Nat) : Int)) = false := by simpa using hlt
          obtain rfl : k = m.rooms.length := by omega
          repeat' (first | refine goS ?_ | refine go2 (fun hh => ?_) (fun hh => ?_) | fail)
          refine W.loopH (m.fans.length) [2, 3] [2, 3] (fun j e1 lm1 => e1.get 6 = some (.int .i64 ↑j)) ?_ ?_
          · first | exact Z2 | rfl | assumption | (simp [go_sem, *]; done)
          intro j e1 lm1 hk1 hce hcl hinv
          simp only [keepE, and_true] at hce
          obtain ⟨c2, c3⟩ := hce
          simp only [go_sem, *, Nat.reduceLT, Int.reduceEq, Int.reduceBEq, Int.reduceLE, Int.reduceLT, Nat.reduceAdd, Nat.reduceBEq, Nat.reduceEqDiff, reduceIte, Nat.reduceLeDiff, Nat.reduceMul, Nat.reduceSub, reduceCtorEq] at c2 c3
          simp only [keepL, and_true] at hcl
          obtain ⟨d2, d3⟩ := hcl
          simp only [go_sem, *, Nat.reduceLT, Int.reduceEq, Int.reduceBEq, Int.reduceLE, Int.reduceLT, Nat.reduceAdd, Nat.reduceBEq, Nat.reduceEqDiff, reduceIte, Nat.reduceLeDiff, Nat.reduceMul, Nat.reduceSub, reduceCtorEq] at d2 d3
          have h6 := hinv
          clear hinv
          by_cases hjt : j < m.fans.length
          · have hd1 : decide ((j : Int) < ((m.fans.length : Nat) : Int)) = true := by simpa using hjt
            have hv_1 := wrap_succ hjt m2
            obtain ⟨p, hp⟩ := get_some hjt
            have hix := fun H => fas_idx V2.out hp H
            have hix2 := fun H => fas_idx W2.out hp H
            have HLT1 := Lib.hid hjt
            clear hp hjt
            repeat' (first | (apply W.drawQ (id := 6) (l1 := [0, 1, 2, 3, 4, 5, 6, 7, 8, 9, 10]) (l2 := []); kernel_rfl; kernel_rfl; kernel_rfl; exact Z4) | (apply W.drawQ (id := 11) (l1 := [0, 1, 2, 3, 4, 5, 6, 7, 8, 9, 10]) (l2 := []); kernel_rfl; kernel_rfl; kernel_rfl; exact Z4) | (apply W.drawQ (id := 16) (l1 := [0, 1, 2, 3, 4, 5, 6, 7, 8, 9, 10]) (l2 := []); kernel_rfl; kernel_rfl; kernel_rfl; exact Z4) | refine go1 ?_ | (apply U6; exact Z1; exact Z1; (focus (simp only [List.nil_append, List.append_nil]; first | exact k34 _)); simp only [pM, pN, rR, rP]) | refine go2 (fun hh => ?_) (fun hh => ?_) | fail)
            all_goals refine contH_mk (by first | assumption | exact HLT1.out) (by simp only [keepE, and_true, and_self, go_sem, *, Nat.reduceLT, Int.reduceEq, Int.reduceBEq, Int.reduceLE, Int.reduceLT, Nat.reduceAdd, Nat.reduceBEq, Nat.reduceEqDiff, reduceIte, Nat.reduceLeDiff, Nat.reduceMul, Nat.reduceSub, reduceCtorEq]) (by simp only [keepL, and_true, and_self, go_sem, *, Nat.reduceLT, Int.reduceEq, Int.reduceBEq, Int.reduceLE, Int.reduceLT, Nat.reduceAdd, Nat.reduceBEq, Nat.reduceEqDiff, reduceIte, Nat.reduceLeDiff, Nat.reduceMul, Nat.reduceSub, reduceCtorEq]) ?_
            all_goals first | exact Z2 | skip
          · have hd1 : decide ((j : Int) < ((m.fans.length : Nat) : Int)) = false := by simpa using hjt
            obtain rfl : j = m.fans.length := by omega
            repeat' (first | refine goS ?_ | refine go2 (fun hh => ?_) (fun hh => ?_) | fail)
            refine W.loopH (m.hands.length) [2, 3] [2, 3] (fun i e2 lm2 => e2.get 7 = some (.int .i64 ↑i)) ?_ ?_
            · first | exact Z2 | rfl | assumption | (simp [go_sem, *]; done)
            intro i e2 lm2 hk2 hce hcl hinv
            simp only [keepE, and_true] at hce
            obtain ⟨c2, c3⟩ := hce
            simp only [go_sem, *, Nat.reduceLT, Int.reduceEq, Int.reduceBEq, Int.reduceLE, Int.reduceLT, Nat.reduceAdd, Nat.reduceBEq, Nat.reduceEqDiff, reduceIte, Nat.reduceLeDiff, Nat.reduceMul, Nat.reduceSub, reduceCtorEq] at c2 c3
            simp only [keepL, and_true] at hcl
            obtain ⟨d2, d3⟩ := hcl
            simp only [go_sem, *, Nat.reduceLT, Int.reduceEq, Int.reduceBEq, Int.reduceLE, Int.reduceLT, Nat.reduceAdd, Nat.reduceBEq, Nat.reduceEqDiff, reduceIte, Nat.reduceLeDiff, Nat.reduceMul, Nat.reduceSub, reduceCtorEq] at d2 d3
            have h7 := hinv
            clear hinv
            by_cases hit : i < m.hands.length
            · have hd2 : decide ((i : Int) < ((m.hands.length : Nat) : Int)) = true := by simpa using hit
              have hv_2 := wrap_succ hit m4
              obtain ⟨p, hp⟩ := get_some hit
              have hix := fun H => has_idx V4.out hp H
              have hix2 := fun H => has_idx W4.out hp H
              have HLT2 := Lib.hid hit
              clear hp hit
              repeat' (first | (apply W.drawQ (id := 6) (l1 := [0, 1, 2, 3, 4, 5, 6, 7, 8, 9, 10]) (l2 := []); kernel_rfl; kernel_rfl; kernel_rfl; exact Z4) | (apply W.drawQ (id := 11) (l1 := [0, 1, 2, 3, 4, 5, 6, 7, 8, 9, 10]) (l2 := []); kernel_rfl; kernel_rfl; kernel_rfl; exact Z4) | (apply W.drawQ (id := 16) (l1 := [0, 1, 2, 3, 4, 5, 6, 7, 8, 9, 10]) (l2 := []); kernel_rfl; kernel_rfl; kernel_rfl; exact Z4) | refine go1 ?_ | (apply U6; exact Z1; exact Z1; (focus (simp only [List.nil_append, List.append_nil]; first | exact k34 _)); simp only [pM, pN, rR, rP]) | refine go2 (fun hh => ?_) (fun hh => ?_) | fail)
              all_goals refine contH_mk (by first | assumption | exact HLT2.out) (by simp only [keepE, and_true, and_self, go_sem, *, Nat.reduceLT, Int.reduceEq, Int.reduceBEq, Int.reduceLE, Int.reduceLT, Nat.reduceAdd, Nat.reduceBEq, Nat.reduceEqDiff, reduceIte, Nat.reduceLeDiff, Nat.reduceMul, Nat.reduceSub, reduceCtorEq]) (by simp only [keepL, and_true, and_self, go_sem, *, Nat.reduceLT, Int.reduceEq, Int.reduceBEq, Int.reduceLE, Int.reduceLT, Nat.reduceAdd, Nat.reduceBEq, Nat.reduceEqDiff, reduceIte, Nat.reduceLeDiff, Nat.reduceMul, Nat.reduceSub, reduceCtorEq]) ?_
              all_goals first | exact Z2 | skip
            · have hd2 : decide ((i : Int) < ((m.hands.length : Nat) : Int)) = false := by simpa using hit
              obtain rfl : i = m.hands.length := by omega
              repeat' (first | refine goS ?_ | refine go2 (fun hh => ?_) (fun hh => ?_) | fail)
              all_goals simp only [resV_def (X := dX cZI) Tryz.func43, Tryz.results43, resultsV, resultV, go_sem, *, Nat.reduceLT, Int.reduceEq, Int.reduceBEq, Int.reduceLE, Int.reduceLT, Nat.reduceAdd, Nat.reduceBEq, Nat.reduceEqDiff, reduceIte, Nat.reduceLeDiff, Nat.reduceMul, Nat.reduceSub, reduceCtorEq, frzRes, dFrz, frzCells, isRet_ret, tupleOf]
      · cases h
    · cases h
  · cases h
theorem F43 : IntrFn Tryz.prog 43 (flatFnD sp43) := flatD_fn (X := dX cZI) cZI_sound p43 R43
theorem K43 {X : Ctx} (hX : X.intr 43 = some (flatFnD sp43)) {ra fa oa ha rb fb ob hb : AV} {m : Hs} {h : Heap} (h1 : SeeV h rmC ra m.rooms) (h2 : SeeV h faC fa m.fans) (h3 : SeeV h intC oa m.op) (h4 : SeeV h haC ha m.hands) (h5 : SeeV h rmC rb m.rooms) (h6 : SeeV h faC fb m.fans) (h7 : SeeV h intC ob m.op) (h8 : SeeV h haC hb m.hands) :
    Cl X 43 [.agg [.int .i64 m.hours, ra, fa, oa, ha], .agg [.int .i64 m.hours, rb, fb, ob, hb]] h (.ret (.bool true) h none) := by
  obtain ⟨ra', v1, s1⟩ := h1
  obtain ⟨fa', v2, s2⟩ := h2
  obtain ⟨oa', v3, s3⟩ := h3
  obtain ⟨ha', v4, s4⟩ := h4
  obtain ⟨rb', v5, s5⟩ := h5
  obtain ⟨fb', v6, s6⟩ := h6
  obtain ⟨ob', v7, s7⟩ := h7
  obtain ⟨hb', v8, s8⟩ := h8
  exact Cl.intr hX (by simp only [flatFnD, viewDs, viewD_hs v1 v2 v3 v4, viewD_hs v5 v6 v7 v8, sp43, hsV, s1, s2, s3, s4, s5, s6, s7, s8, if_true])
def shortB (m : Hs) : Bool := decide ((m.rooms.length : Int) ≤ 5) && decide ((m.fans.length : Int) ≤ 7) && decide ((m.op.length : Int) ≤ 6) && decide ((m.hands.length : Int) ≤ 6)
end Go.AM
