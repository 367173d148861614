/-
  A part of the proof: contracts of functions.
-/
import Derived.Test.YtkpbdjpekjdhcaaGreatDoorUBN
set_option linter.unusedSectionVars false
set_option linter.unusedVariables false
set_option linter.unusedSimpArgs false
set_option maxRecDepth 100000
namespace Go.AM
open Go Go.Proofs
variable [Keep]
attribute [local irreducible] W WO WO1 WD WQ WT thenQ blockQ endR isRet retK Cl ClR
open Go.TX (Rm Fa Ha Hs)
attribute [local irreducible] houseB pathB airS failsH rosB rosR stafB keptR danL knG
set_option maxHeartbeats 32000000 in
theorem T15 (ra fa oa ha pa dv : AV) (m : Hs) (fan more hand limit : Int) (p : List Int) (g : List (List Int)) (v : HsI m ra fa oa ha) (q : isSl pa (p.map intC.enc)) (w : LsI dv g) : ClR (dX c15) 15 [.agg [.int .i64 m.hours, ra, fa, oa, ha], .int .i64 fan, .int .i64 more, pa, dv, .int .i64 hand, .int .i64 limit] emptyHp (isRet (.bool true)) := by
 have o1 := v.r.out
 have o2 := v.f.out
 have o3 := v.o.out
 have o4 := v.h.out
 have op := q.out
 have lp := q.len
 rw [List.length_map] at lp
 have od := w.out
 have k22 : ∀ h, Cl (dX c15) 22 [] h (.ret (.bool true) h none) := fun h => K22 rfl h
 have k21 := fun h => K21I (X := dX c15) rfl v h
 have k51 := fun h => C51 (c := c15) rfl dv g w h
 have q0 : ((0 : Int) == 0) = true := rfl
 have n0 : ((0 : Int) != 0) = false := rfl
 have tt : (true && true) = true := rfl
 cases gs : shortB m with
 | false =>
  rw [gs] at k21
  clear v q gs w
  refine ClR.walk (c := _) rfl Tryz.func15 rfl (by kernel_rfl) rfl isRet_fail ?_
  try simp only [entryEnv, Nat.reduceAdd, List.nil_append, List.cons_append, emptyHp]
  repeat' (first | refine goS ?_ | (apply U6; exact Z1; exact Z1; (focus (simp only [List.nil_append, List.append_nil]; first | exact k21 _ | exact k22 _)); simp only [pM, pN, rR, rP]) | refine go2 (fun hh => ?_) (fun hh => ?_) | fail)
  all_goals (simp only [resV_def (X := dX c15) Tryz.func15, Tryz.results15]; first | exact J5 | refine J6 ?_)
  all_goals rfl
 | true =>
 rw [gs] at k21
 cases gz : decide ((p.length : Int) > 7) with
 | true =>
  clear v q gs w
  refine ClR.walk (c := _) rfl Tryz.func15 rfl (by kernel_rfl) rfl isRet_fail ?_
  try simp only [entryEnv, Nat.reduceAdd, List.nil_append, List.cons_append, emptyHp]
  repeat' (first | refine goS ?_ | (apply U6; exact Z1; exact Z1; (focus (simp only [List.nil_append, List.append_nil]; first | exact k21 _ | exact k22 _)); simp only [pM, pN, rR, rP]) | refine go2 (fun hh => ?_) (fun hh => ?_) | fail)
  all_goals (simp only [resV_def (X := dX c15) Tryz.func15, Tryz.results15]; first | exact J5 | refine J6 ?_)
  all_goals rfl
 | false =>
 cases gl : sizedL g with
 | false =>
  rw [gl] at k51
  clear v q gs w gl
  refine ClR.walk (c := _) rfl Tryz.func15 rfl (by kernel_rfl) rfl isRet_fail ?_
  try simp only [entryEnv, Nat.reduceAdd, List.nil_append, List.cons_append, emptyHp]
  repeat' (first | refine goS ?_ | (apply U6; exact Z1; exact Z1; (focus (simp only [List.nil_append, List.append_nil]; first | exact k21 _ | exact k22 _ | exact k51 _)); simp only [pM, pN, rR, rP]) | refine go2 (fun hh => ?_) (fun hh => ?_) | fail)
  all_goals (simp only [resV_def (X := dX c15) Tryz.func15, Tryz.results15]; first | exact J5 | refine J6 ?_)
  all_goals rfl
 | true =>
 rw [gl] at k51
 have hA := v.short gs
 have hp : slV intC pa = some p := slV_mk q (by simp only [decide_eq_false_iff_not] at gz; unfold maxL; omega)
 have hg := w.sized gl
 have k24 := fun h => K24p (X := dX c15) rfl hA h
 have k62 := fun h => C62 (c := c15) hc15 rfl m ra fa oa ha pa p hA hp h
 have k50 := fun h => C50 (c := c15) hc15 rfl limit h
 cases hb : houseB m with
 | false =>
  rw [hb] at k24
  clear v q gs w gl hA hp hg hb
  refine ClR.walk (c := _) rfl Tryz.func15 rfl (by kernel_rfl) rfl isRet_fail ?_
  try simp only [entryEnv, Nat.reduceAdd, List.nil_append, List.cons_append, emptyHp]
  repeat' (first | refine goS ?_ | (apply U6; exact Z1; exact Z1; (focus (simp only [List.nil_append, List.append_nil]; first | exact k21 _ | exact k22 _ | exact k51 _ | exact k24 _)); simp only [pM, pN, rR, rP]) | refine go2 (fun hh => ?_) (fun hh => ?_) | fail)
  all_goals (simp only [resV_def (X := dX c15) Tryz.func15, Tryz.results15]; first | exact J5 | refine J6 ?_)
  all_goals rfl
 | true =>
 rw [hb] at k24
 cases hq : pathB m p with
 | false =>
  rw [hq] at k62
  clear v q gs w gl hA hp hg hb hq
  refine ClR.walk (c := _) rfl Tryz.func15 rfl (by kernel_rfl) rfl isRet_fail ?_
  try simp only [entryEnv, Nat.reduceAdd, List.nil_append, List.cons_append, emptyHp]
  repeat' (first | refine goS ?_ | (apply U6; exact Z1; exact Z1; (focus (simp only [List.nil_append, List.append_nil]; first | exact k21 _ | exact k22 _ | exact k51 _ | exact k24 _ | exact k62 _)); simp only [pM, pN, rR, rP]) | refine go2 (fun hh => ?_) (fun hh => ?_) | fail)
  all_goals (simp only [resV_def (X := dX c15) Tryz.func15, Tryz.results15]; first | exact J5 | refine J6 ?_)
  all_goals rfl
 | true =>
 rw [hq] at k62
 cases hli : inB limit 0 2000 with
 | false =>
  rw [hli] at k50
  clear v q gs w gl hA hp hg hb hq hli
  refine ClR.walk (c := _) rfl Tryz.func15 rfl (by kernel_rfl) rfl isRet_fail ?_
  try simp only [entryEnv, Nat.reduceAdd, List.nil_append, List.cons_append, emptyHp]
  repeat' (first | refine goS ?_ | (apply U6; exact Z1; exact Z1; (focus (simp only [List.nil_append, List.append_nil]; first | exact k21 _ | exact k22 _ | exact k51 _ | exact k24 _ | exact k62 _ | exact k50 _)); simp only [pM, pN, rR, rP]) | refine go2 (fun hh => ?_) (fun hh => ?_) | fail)
  all_goals (simp only [resV_def (X := dX c15) Tryz.func15, Tryz.results15]; first | exact J5 | refine J6 ?_)
  all_goals rfl
 | true =>
 rw [hli] at k50
 have ho := house_ok hb
 have k23 := fun h => K23 (X := dX c15) rfl hA h
 have k61 := fun h => K61D (X := dX c15) rfl (h := h) (ra := ra) (fa := fa) (oa := oa) (ha := ha) ⟨SeeV.of hA.r h, SeeV.of hA.f h, SeeV.of hA.o h, SeeV.of hA.h h⟩ limit hp
 have lf := sl_len hA.f
 have HA := Lib.hid hA
 have HO := Lib.hid ho
 have HP := Lib.hid hp
 have HG := Lib.hid hg
 have HQ := Lib.hid hq
 have HBH := Lib.hid hb
 have HLI := Lib.hid (inB_iff.1 hli)
 have HLB := Lib.hid hli
 obtain ⟨nn, hnn⟩ : ∃ nn : Nat, m.hours = nn := ⟨m.hours.toNat, by have := ho.hours; omega⟩
 have hnt : m.hours.toNat = nn := by omega
 have HN := Lib.hid (show nn ≤ 4 by have := ho.hours; omega)
 have HR := Lib.hid ho.rooms
 have e1 : knV m = .tuple [slN (spansE (knG m nn m.rooms.length)), .int .i64 0] := by unfold knV; rw [hb, hnt]; rfl
 have e3 : safeV m p limit = .tuple [.int .i64 (safeW (airS m p) limit), .int .i64 0] := by unfold safeV; rw [hb, hq, hli]; rfl
 rw [e1] at k23
 rw [e3] at k61
 have HNN := Lib.hid hnn
 have HNT := Lib.hid hnt
 rw [hnn] at k21 k24 k62 k23 k61 ⊢
 have hnen : ((nn : Int) != (nn : Int)) = false := by simp
 have hner : ((m.rooms.length : Int) != (m.rooms.length : Int)) = false := by simp
 have lka := (slN_is (spansE (knG m nn m.rooms.length))).len
 have oka := (slN_is (spansE (knG m nn m.rooms.length))).out
 have hla : (spansE (knG m nn m.rooms.length)).length = m.rooms.length := by unfold spansE; rw [List.length_map, knG_len]
 rw [hla] at lka
 have lr := sl_len hA.r
 have hK1 := fun (r : Nat) (hr : r < m.rooms.length) => kn_row2 m nn m.rooms.length hr
 have HK1 := Lib.hid hK1
 clear v q gs w gl hA hp hg hb hq hli ho e1 e3 hnn hnt hla hK1
 by_cases hx : (0 ≤ fan ∧ fan < (m.fans.length : Int)) ∧ 0 ≤ more
 ·obtain ⟨⟨hx1, hx2⟩, hx3⟩ := hx
  obtain ⟨i, rfl⟩ : ∃ i : Nat, fan = i := ⟨fan.toNat, by omega⟩
  obtain ⟨x, hxi⟩ := get_some (l := m.fans) (k := i) (by omega)
  have hix := fun H => fas_idx HA.out.f hxi H
  have d1 : decide ((i : Int) ≥ 0) = true := by simp
  have d2 : decide ((i : Int) < (m.fans.length : Int)) = true := by simpa using hx2
  have d3 : decide (more ≥ 0) = true := by simpa using hx3
  have hxo := HO.out.fan x (List.mem_of_getElem? hxi)
  have w1 : IntKind.i64.wrap (50 - x.draws) = 50 - x.draws := w64_small (by omega) (by omega)
  have HXI := Lib.hid hxi
  have HXO := Lib.hid hxo
  cases d4 : decide (more ≤ 50 - x.draws) with
  | false =>
   clear hx1 hx2 hx3 hxi hxo
   refine ClR.walk (c := _) rfl Tryz.func15 rfl (by kernel_rfl) rfl isRet_fail ?_
   try simp only [entryEnv, Nat.reduceAdd, List.nil_append, List.cons_append, emptyHp]
   repeat' (first | (exact T15t _ _ _ _ _ _ _ dv m nn hand limit g HA.out HNN.out HBH.out HG.out HLB.out Z2 Z2 Z2 Z2 Z2) | refine go1 ?_ | (apply U6; exact Z1; exact Z1; (focus (simp only [List.nil_append, List.append_nil]; first | exact k21 _ | exact k51 _ | exact k24 _ | exact k62 _ | exact k50 _)); simp only [pM, pN, rR, rP]) | refine go2 (fun hh => ?_) (fun hh => ?_) | fail)
  | true =>
   have hw2 : IntKind.i64.wrap (x.draws + more) = x.draws + more := by simp only [decide_eq_true_eq] at d4; exact w64_small (by omega) (by omega)
   have hneF : m.fans.map faC.enc ≠ [] := fun e => by
    have := congrArg List.length e
    rw [List.length_map, List.length_nil] at this
    omega
   have hfv : fa = .vslice (m.fans.map faC.enc) := by
    rcases (slV_is HA.out.f).1 with ⟨_, e⟩ | e
    ·exact absurd e hneF
    ·exact e
   have HLF := Lib.hid (show 0 + m.fans.length ≤ most by have := HO.out.fans; unfold most; omega)
   subst hfv
   have hltF : i < m.fans.length := by omega
   have hat : (m.fans.map faC.enc)[i]? = some (.agg [.int .i64 x.room, .int .i64 x.draws]) := by rw [List.getElem?_map, hxi]; rfl
   have hd4 : more ≤ 50 - x.draws := by simpa using d4
   have hu := upF_set hxi (d := x.draws + more) (by omega)
   have hd : ∀ y ∈ m.fans.set i ⟨x.room, x.draws + more⟩, 0 ≤ y.draws ∧ y.draws ≤ 50 := fun y hy => by
    rcases List.mem_or_eq_of_mem_set hy with h | rfl
    ·have := HO.out.fan y h; omega
    ·simp only; omega
   have hb' := upF_bool hu hd HBH.out
   have ho' := house_ok hb'
   have hair := upF_air hu HO.out ho' HQ.out
   have hkn : ∀ r k, r < m.rooms.length → k < nn → _ := fun r k hr hk => upF_known hu HO.out ho' (r := r) (k := k) hr (by rw [HNT.out]; exact hk)
   rw [HNT.out] at hkn
   have hfe : (m.fans.map faC.enc).set i (asElem (isAggV (.agg [.int .i64 x.room, .int .i64 x.draws])) [.int .i64 x.room, .int .i64 (x.draws + more)]) = (m.fans.set i ⟨x.room, x.draws + more⟩).map faC.enc := by rw [List.map_set]; rfl
   have hlF : (m.fans.set i ⟨x.room, x.draws + more⟩).length = m.fans.length := by simp
   generalize m.fans.set i ⟨x.room, x.draws + more⟩ = F at *
   have e2 : knV { m with fans := F } = .tuple [slN (spansE (knG { m with fans := F } nn m.rooms.length)), .int .i64 0] := by unfold knV; rw [hb']; simp only [HNT.out]; rfl
   have e4 : safeV { m with fans := F } p limit = .tuple [.int .i64 (safeW (airS { m with fans := F } p) limit), .int .i64 0] := by unfold safeV; rw [hb', upF_path, HQ.out, HLB.out]; rfl
   have hxm : F.length ≤ maxL := by rw [hlF]; have := HO.out.fans; unfold maxL; omega
   have hk23b : ∀ h : Heap, h.get 0 = some (.rw 2 (F.map faC.enc)) → Cl (dX c15) 23 [.agg [.int .i64 nn, ra, .row 0 0 m.fans.length, oa, ha]] h (.ret (.tuple [slN (spansE (knG { m with fans := F } nn m.rooms.length)), .int .i64 0]) h none) := fun h hg => by
    have := K23D (X := dX c15) rfl (HsD.fans HA.out (SeeV.row hg hxm))
    rw [hlF, e2] at this
    generalize slN (spansE (knG { m with fans := F } nn m.rooms.length)) = kk at this ⊢
    rw [HNN.out] at this
    exact this
   have hk61b : ∀ h : Heap, h.get 0 = some (.rw 2 (F.map faC.enc)) → Cl (dX c15) 61 [.agg [.int .i64 nn, ra, .row 0 0 m.fans.length, oa, ha], .int .i64 limit, pa] h (.ret (.tuple [.int .i64 (safeW (airS { m with fans := F } p) limit), .int .i64 0]) h none) := fun h hg => by
    have := K61D (X := dX c15) rfl (HsD.fans HA.out (SeeV.row hg hxm)) limit HP.out
    rw [hlF, e4] at this
    generalize safeW (airS { m with fans := F } p) limit = kk at this ⊢
    rw [HNN.out] at this
    exact this
   have hsw : decide (safeW (airS { m with fans := F } p) limit < safeW (airS m p) limit) = false := by
    have := safe_mono (l := limit) hair
    simp only [decide_eq_false_iff_not]
    omega
   have lkb := (slN_is (spansE (knG { m with fans := F } nn m.rooms.length))).len
   have okb := (slN_is (spansE (knG { m with fans := F } nn m.rooms.length))).out
   have hlb : (spansE (knG { m with fans := F } nn m.rooms.length)).length = m.rooms.length := by unfold spansE; rw [List.length_map, knG_len]
   rw [hlb] at lkb
   have hK2 := fun (r : Nat) (hr : r < m.rooms.length) => kn_row2 { m with fans := F } nn m.rooms.length hr
   have HK2 := Lib.hid hK2
   have HK23b := Lib.hid hk23b
   have HK61b := Lib.hid hk61b
   have HKN := Lib.hid hkn
   have HFE := Lib.hid hfe
   generalize safeW (airS { m with fans := F } p) limit = s2 at *
   generalize safeW (airS m p) limit = s1 at *
   generalize slN (spansE (knG { m with fans := F } nn m.rooms.length)) = kb at *
   generalize slN (spansE (knG m nn m.rooms.length)) = ka at *
   clear hx1 hx2 hx3 hxi hxo hd4 hu hd hb' ho' hair hkn hfe hlF e2 e4 hxm hk23b hk61b hlb hK2
   refine ClR.walk (c := _) rfl Tryz.func15 rfl (by kernel_rfl) rfl isRet_fail ?_
   try simp only [entryEnv, Nat.reduceAdd, List.nil_append, List.cons_append, emptyHp]
   repeat' (first | (apply W.draw (id := 6) (lc := [0, 1, 2, 3, 4, 5, 6, 7, 8, 9, 10, 11, 12, 13]) (hot := []); kernel_rfl; kernel_rfl; kernel_rfl; exact Z4) | (apply WD.cons (o := ⟨some 98, _, _, _, _, none⟩); exact rfl; exact rfl) | (apply WD.cons (o := ⟨some 99, _, _, _, _, none⟩); exact rfl; exact rfl) | (apply WD.cons (o := ⟨some 100, _, _, _, _, none⟩); exact rfl; exact rfl) | (apply WD.cons (o := ⟨some 101, _, _, _, _, none⟩); exact rfl; exact rfl) | (apply WD.cons (o := ⟨some 102, _, _, _, _, none⟩); exact rfl; exact rfl) | (apply WD.cons (o := ⟨none, .store 3 (.tmp 102) (.tmp 100), _, _, _, none⟩); exact rfl; exact rfl) | (refine WD.cons rfl rfl ?_) | (refine WD.nil ⟨?_, ?_⟩; rotate_left; simp only [tN, bN, eN, true_and]) | (refine calmR rfl rfl rfl rfl rfl ?_ ?_; (focus (first | exact Z2 | exact Z1))) | (refine calmE rfl rfl rfl rfl rfl ?_ ?_; (focus (first | exact Z2 | exact Z1))) | (with_reducible refine calmEnd) | (apply WO1.appendX (t := 23) (u := 23) (e := 103) (e' := 103) (sz := 2) (tl := []) (l := []) (new := m.fans.map faC.enc) (b := 0) (h0 := ⟨0, .nil⟩) (hb := BltN.nil) (hx := ⟨Nat.zero_le _, fun id h => absurd h (Nat.not_lt_zero id)⟩); exact Z1; exact rfl; exact Z2; exact Z2; exact Z2; (focus (exact ty_row23)); (focus (first | exact Z2 | exact Z1 | exact rfl)); (focus (intro v hv; obtain ⟨p, _, rfl⟩ := List.mem_map.1 hv; rfl)); (focus (simp only [List.length_map, List.length_nil]; exact HLF.out)); (focus (exact hneF)); (intro v1 hp1 hB1 ho1 hK1 hE1 hX1; simp only [List.nil_append, List.length_map] at hE1; simp only [List.nil_append] at hB1; subst hE1; obtain ⟨g1, hid1⟩ := bltN_row hB1; have HID1 := Lib.hid hid1; clear hK1 hB1 hX1 hid1; have hri1 := ridx23 g1 hltF; obtain ⟨qn1, qm1⟩ := hp1; simp only [hp_get] at g1; simp only [pM, pN])) | refine go1 ?_ | (apply U6; exact Z1; exact Z1; (focus (simp only [List.nil_append, List.append_nil]; first | exact k21 _ | exact k51 _ | exact k24 _ | exact k62 _ | exact k50 _ | exact k23 _ | exact HK23b.out _ (by simp only [hp_get, get_set_same, HFE.out]) | exact k61 _ | exact HK61b.out _ (by simp only [hp_get, get_set_same, HFE.out]))); simp only [pM, pN, rR, rP]) | refine go2 (fun hh => ?_) (fun hh => ?_) | fail)
   refine W.loopH (m.rooms.length) [4, 5, 6, 7, 16, 18] [7] (fun k e lm => e.get 24 = some (.int .i64 ↑k)) ?_ ?_
   ·first | exact Z2 | rfl | assumption | (simp [go_sem, *]; done)
   intro k e lm hk0 hce hcl hinv
   simp only [keepE, and_true] at hce
   obtain ⟨c4, c5, c6, c7, c16, c18⟩ := hce
   simp only [go_sem, *, Nat.reduceLT, Int.reduceEq, Int.reduceBEq, Int.reduceLE, Int.reduceLT, Nat.reduceAdd, Nat.reduceBEq, Nat.reduceEqDiff, reduceIte, Nat.reduceLeDiff, Nat.reduceMul, Nat.reduceSub, reduceCtorEq] at c4 c5 c6 c7 c16 c18
   simp only [keepL, and_true] at hcl
   have d7 := hcl
   clear hcl
   simp only [go_sem, *, Nat.reduceLT, Int.reduceEq, Int.reduceBEq, Int.reduceLE, Int.reduceLT, Nat.reduceAdd, Nat.reduceBEq, Nat.reduceEqDiff, reduceIte, Nat.reduceLeDiff, Nat.reduceMul, Nat.reduceSub, reduceCtorEq] at d7
   have h24 := hinv
   clear hinv
   by_cases hlt : k < m.rooms.length
   ·have hd0 : decide ((k : Int) < ((m.rooms.length : Nat) : Int)) = true := by first | (simpa using hlt; done) | (simp only [decide_eq_true_eq]; omega)
    have hv_0 := wrap_succ hlt (by have := HR.out; unfold maxL; omega)
    obtain ⟨b1, p1, p2, p3, p4, p5, p6⟩ := HK1.out k hlt
    obtain ⟨b2, r1, r2, r3, r4, r5, r6⟩ := HK2.out k hlt
    have P6 := Lib.hid p6
    have R6 := Lib.hid r6
    have HLT0 := Lib.hid hlt
    simp only [AV.cells] at p2 r2
    simp only [isTuple] at p3 r3
    clear p6 r6 hlt
    clear k21 k22 k51 k24 k62 k50 k23 k61
    repeat' (first | (apply W.drawQ (id := 16) (l1 := [0, 1, 2, 3, 4, 5, 6, 7, 8, 9, 10, 11, 12, 13, 14, 15, 16, 17]) (l2 := []); kernel_rfl; kernel_rfl; kernel_rfl; exact Z4) | refine go1 ?_ | refine go2 (fun hh => ?_) (fun hh => ?_) | fail)
    refine W.loopH (nn) [4, 5, 6, 7, 16, 18, 24] [7] (fun j e1 lm1 => e1.get 25 = some (.int .i64 ↑j)) ?_ ?_
    ·skip
     refine ?_
     all_goals first | exact Z2 | (simp [go_sem, *]; done) | skip
    intro j e1 lm1 hk1 hce hcl hinv
    simp only [keepE, and_true] at hce
    obtain ⟨c4, c5, c6, c7, c16, c18, c24⟩ := hce
    simp only [go_sem, *, Nat.reduceLT, Int.reduceEq, Int.reduceBEq, Int.reduceLE, Int.reduceLT, Nat.reduceAdd, Nat.reduceBEq, Nat.reduceEqDiff, reduceIte, Nat.reduceLeDiff, Nat.reduceMul, Nat.reduceSub, reduceCtorEq] at c4 c5 c6 c7 c16 c18 c24
    simp only [keepL, and_true] at hcl
    have d7 := hcl
    clear hcl
    simp only [go_sem, *, Nat.reduceLT, Int.reduceEq, Int.reduceBEq, Int.reduceLE, Int.reduceLT, Nat.reduceAdd, Nat.reduceBEq, Nat.reduceEqDiff, reduceIte, Nat.reduceLeDiff, Nat.reduceMul, Nat.reduceSub, reduceCtorEq] at d7
    have h25 := hinv
    clear hinv
    by_cases hjt : j < nn
    ·have hd1 : decide ((j : Int) < ((nn : Nat) : Int)) = true := by first | (simpa using hjt; done) | (simp only [decide_eq_true_eq]; omega)
     have hv_1 := wrap_succ hjt (by have := HN.out; unfold maxL; omega)
     have u1 := P6.out j hjt
     have u2 := R6.out j hjt
     obtain ⟨y1, y2⟩ := HKN.out k j HLT0.out hjt
     have f6 : decide ((airS { m with fans := F } (rstP nn j k)).1 > (airS m (rstP nn j k)).1) = false := by simp only [decide_eq_false_iff_not]; omega
     have f7 : decide ((airS { m with fans := F } (rstP nn j k)).2 > (airS m (rstP nn j k)).2) = false := by simp only [decide_eq_false_iff_not]; omega
     clear y1 y2
     repeat' (first | (apply W.drawQ (id := 21) (l1 := [0, 1, 2, 3, 4, 5, 6, 7, 8, 9, 10, 11, 12, 13, 14, 15, 16, 17, 18, 19, 20, 21, 22, 23, 24, 25, 26, 27, 28, 29, 30, 31, 32, 33, 34, 35]) (l2 := []); kernel_rfl; kernel_rfl; kernel_rfl; exact Z4) | refine go1 ?_ | refine go2 (fun hh => ?_) (fun hh => ?_) | fail)
     all_goals refine contH_mk (by first | assumption | exact HLT1.out | exact HLT0.out) (by simp only [keepE, and_true, and_self, go_sem, *, Nat.reduceLT, Int.reduceEq, Int.reduceBEq, Int.reduceLE, Int.reduceLT, Nat.reduceAdd, Nat.reduceBEq, Nat.reduceEqDiff, reduceIte, Nat.reduceLeDiff, Nat.reduceMul, Nat.reduceSub, reduceCtorEq]) (by simp only [keepL, and_true, and_self, go_sem, *, Nat.reduceLT, Int.reduceEq, Int.reduceBEq, Int.reduceLE, Int.reduceLT, Nat.reduceAdd, Nat.reduceBEq, Nat.reduceEqDiff, reduceIte, Nat.reduceLeDiff, Nat.reduceMul, Nat.reduceSub, reduceCtorEq]) ?_
     all_goals first | exact Z2 | skip
    ·have hd1 : decide ((j : Int) < ((nn : Nat) : Int)) = false := by first | (simpa using hjt; done) | (simp only [decide_eq_false_iff_not]; omega)
     obtain rfl : j = nn := by omega
     repeat' (first | refine goS ?_ | refine go2 (fun hh => ?_) (fun hh => ?_) | fail)
     all_goals refine contH_mk (by first | assumption | exact HLT0.out | exact HLT0.out) (by simp only [keepE, and_true, and_self, go_sem, *, Nat.reduceLT, Int.reduceEq, Int.reduceBEq, Int.reduceLE, Int.reduceLT, Nat.reduceAdd, Nat.reduceBEq, Nat.reduceEqDiff, reduceIte, Nat.reduceLeDiff, Nat.reduceMul, Nat.reduceSub, reduceCtorEq]) (by simp only [keepL, and_true, and_self, go_sem, *, Nat.reduceLT, Int.reduceEq, Int.reduceBEq, Int.reduceLE, Int.reduceLT, Nat.reduceAdd, Nat.reduceBEq, Nat.reduceEqDiff, reduceIte, Nat.reduceLeDiff, Nat.reduceMul, Nat.reduceSub, reduceCtorEq]) ?_
     all_goals first | exact Z2 | skip
   ·have hd0 : decide ((k : Int) < ((m.rooms.length : Nat) : Int)) = false := by first | (simpa using hlt; done) | (simp only [decide_eq_false_iff_not]; omega)
    obtain rfl : k = m.rooms.length := by omega
    repeat' (first | (exact T15t _ _ _ _ _ _ _ dv m nn hand limit g HA.out HNN.out HBH.out HG.out HLB.out Z2 Z2 Z2 Z2 Z2) | refine go1 ?_ | refine go2 (fun hh => ?_) (fun hh => ?_) | fail)
 ·by_cases h1 : fan < 0
  ·have d1 : decide (fan ≥ 0) = false := by simp only [decide_eq_false_iff_not]; omega
   clear h1 hx
   refine ClR.walk (c := _) rfl Tryz.func15 rfl (by kernel_rfl) rfl isRet_fail ?_
   try simp only [entryEnv, Nat.reduceAdd, List.nil_append, List.cons_append, emptyHp]
   repeat' (first | (exact T15t _ _ _ _ _ _ _ dv m nn hand limit g HA.out HNN.out HBH.out HG.out HLB.out Z2 Z2 Z2 Z2 Z2) | refine go1 ?_ | (apply U6; exact Z1; exact Z1; (focus (simp only [List.nil_append, List.append_nil]; first | exact k21 _ | exact k51 _ | exact k24 _ | exact k62 _ | exact k50 _)); simp only [pM, pN, rR, rP]) | refine go2 (fun hh => ?_) (fun hh => ?_) | fail)
  ·have d1 : decide (fan ≥ 0) = true := by simp only [decide_eq_true_eq]; omega
   by_cases h2 : fan < (m.fans.length : Int)
   ·have d2 : decide (fan < (m.fans.length : Int)) = true := by simpa using h2
    have d3 : decide (more ≥ 0) = false := by simp only [decide_eq_false_iff_not]; omega
    clear h1 h2 hx
    refine ClR.walk (c := _) rfl Tryz.func15 rfl (by kernel_rfl) rfl isRet_fail ?_
    try simp only [entryEnv, Nat.reduceAdd, List.nil_append, List.cons_append, emptyHp]
    repeat' (first | (exact T15t _ _ _ _ _ _ _ dv m nn hand limit g HA.out HNN.out HBH.out HG.out HLB.out Z2 Z2 Z2 Z2 Z2) | refine go1 ?_ | (apply U6; exact Z1; exact Z1; (focus (simp only [List.nil_append, List.append_nil]; first | exact k21 _ | exact k51 _ | exact k24 _ | exact k62 _ | exact k50 _)); simp only [pM, pN, rR, rP]) | refine go2 (fun hh => ?_) (fun hh => ?_) | fail)
   ·have d2 : decide (fan < (m.fans.length : Int)) = false := by simpa using h2
    clear h1 h2 hx
    refine ClR.walk (c := _) rfl Tryz.func15 rfl (by kernel_rfl) rfl isRet_fail ?_
    try simp only [entryEnv, Nat.reduceAdd, List.nil_append, List.cons_append, emptyHp]
    repeat' (first | (exact T15t _ _ _ _ _ _ _ dv m nn hand limit g HA.out HNN.out HBH.out HG.out HLB.out Z2 Z2 Z2 Z2 Z2) | refine go1 ?_ | (apply U6; exact Z1; exact Z1; (focus (simp only [List.nil_append, List.append_nil]; first | exact k21 _ | exact k51 _ | exact k24 _ | exact k62 _ | exact k50 _)); simp only [pM, pN, rR, rP]) | refine go2 (fun hh => ?_) (fun hh => ?_) | fail)
end Go.AM
