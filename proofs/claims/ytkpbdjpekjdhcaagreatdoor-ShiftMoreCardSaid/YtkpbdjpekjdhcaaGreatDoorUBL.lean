/-
  A part of the proof: contracts of functions.
-/
import Derived.Test.YtkpbdjpekjdhcaaGreatDoorUBG
import Derived.Test.YtkpbdjpekjdhcaaGreatDoorUAF
set_option linter.unusedSectionVars false
set_option linter.unusedVariables false
set_option linter.unusedSimpArgs false
set_option maxRecDepth 100000
namespace Go.AM
open Go Go.Proofs
variable [Keep]
attribute [local irreducible] W WO WO1 WD WQ WT thenQ blockQ endR isRet retK Cl ClR
open Go.TX (Rm Fa Ha Hs)
attribute [local irreducible] houseB airS failsH lowG highG
def knV (m : Hs) : AV := if houseB m = true then .tuple [slN (spansE (knG m m.hours.toNat m.rooms.length)), .int .i64 0] else .tuple [.nilslice, .int .i64 2]
def sp23 : List AV → Option AV
 | [x] => (hsV x).map knV
 | _ => none
noncomputable def cN0 : Itr
 | 82 => some (flatFnD sp82)
 | 136 => some (pureFn sp136)
 | 137 => some (pureFn sp137)
 | _ => none
theorem cN0_sound : Sound (dX cN0) := dX_sound (fun f g h => by
 unfold cN0 at h
 split at h
 ·cases h; exact F82D
 ·cases h; exact F136
 ·cases h; exact F137
 ·cases h)
theorem hdN0 : CxD cN0 := ⟨rfl, rfl, rfl, rfl, rfl⟩
theorem grid_cell {m : Hs} {g : List (List Int)} (q : GOk g m.rooms.length m.hours.toNat 250) (hl : lisV (slN (rowsE g)) = some g) {r k : Nat} (hr : r < m.rooms.length) (hk : k < m.hours.toNat) : ∃ b, outV (some b) = some b ∧ (∀ H, indexAddrV Tryz.prog H 36 (slN (rowsE g)) (.int .i64 (r : Int)) = some (.vptr [b])) ∧ ∀ H, indexAddrV Tryz.prog H 24 b (.int .i64 (k : Int)) = some (.vptr [.int .i64 ((g.getD r []).getD k 0)]) := by
 obtain ⟨row, hrow⟩ := get_some (l := g) (k := r) (by rw [q.len]; exact hr)
 obtain ⟨b, h1, h2⟩ := lis_idx hl hrow
 obtain ⟨x, hx⟩ := get_some (l := row) (k := k) (by rw [q.row row (List.mem_of_getElem? hrow)]; exact hk)
 refine ⟨b, sl_out h1, h2, fun H => ?_⟩
 have : (g.getD r []).getD k 0 = x := by simp [List.getD, hrow, hx]
 rw [this]
 exact ints_idx h1 hx H
def knGo (m : Hs) (nn k j i : Nat) (s : Int × Int) : Prop := ((((failsH m).drop i).map fun f => ((lowG m f).getD k []).getD j 0).foldl minV s.1, (((failsH m).drop i).map fun f => ((highG m f).getD k []).getD j 0).foldl maxV s.2) = airS m (rstP nn j k)
set_option maxHeartbeats 16000000 in
theorem R23 (m : Hs) (ra fa oa ha : AV) (hm : HsA m ra fa oa ha) : ClR (dX cN0) 23 [.agg [.int .i64 m.hours, ra, fa, oa, ha]] emptyHp (isQ (knV m)) := by
 have l1 := sl_len hm.r
 have o1 := sl_out hm.r
 have o2 := sl_out hm.f
 have o3 := sl_out hm.o
 have o4 := sl_out hm.h
 have k82 := fun h => K82p (X := dX cN0) rfl hm h
 unfold knV
 cases hb : houseB m with
 | false =>
  rw [hb] at k82
  simp only [Bool.false_eq_true, if_false]
  clear hm hb
  refine ClR.walk (c := _) rfl Tryz.func23 rfl (by kernel_rfl) rfl isQ_fail ?_
  try simp only [entryEnv, Nat.reduceAdd, List.nil_append, List.cons_append, emptyHp]
  repeat' (first | refine goS ?_ | (apply U6; exact Z1; exact Z1; (focus (simp only [List.nil_append, List.append_nil]; first | exact k82 _)); simp only [pM, pN, rR, rP]) | refine go2 (fun hh => ?_) (fun hh => ?_) | fail)
  all_goals (simp only [resV_def (X := dX cN0) Tryz.func23, Tryz.results23]; first | exact J5 | refine J6 ?_)
  all_goals exact isQ_ret (.tuple rfl (fun i hi => by
   have : i = 0 ∨ i = 1 := by simp only [List.length_cons, List.length_nil] at hi; omega
   rcases this with rfl | rfl <;> exact .flat rfl))
 | true =>
  rw [hb] at k82
  simp only [if_true]
  have ho := house_ok hb
  have hd := C83 hdN0 m ra fa oa ha hm ho 0 .nil
  unfold ClR dayR at hd
  obtain ⟨_, hcl, ⟨dn, dm⟩, a, mid, l, rfl, hx, hsl, hg, hl, hmid⟩ := hd
  obtain ⟨nn, hnn, hnt, hn1, hn4, hol⟩ := ho_parts ho
  have hr3 := ho.rooms
  have hl29 := fails_29 ho
  have hl1 := fails_1 m
  have hlen := sl_len hsl
  have oa5 := sl_out hsl
  rw [List.length_map] at hlen
  have hlook := fun (f : Fl) (hf : f ∈ failsH m) (H : Heap) (hH : H.get mid = some (.mp (entE m l))) => look52 (m := m) (h := H) (id := mid) hH (hl f hf)
  have hlo := fun f (r k : Nat) (h1 : r < m.rooms.length) (h2 : k < m.hours.toNat) => grid_cell (low_ok ho f) (low_lis ho f) h1 h2
  have hhi := fun f (r k : Nat) (h1 : r < m.rooms.length) (h2 : k < m.hours.toNat) => grid_cell (high_ok ho f) (high_lis ho f) h1 h2
  obtain ⟨f0, hf0⟩ := get_some (l := failsH m) (k := 0) (by omega)
  have hkn := fun (r k : Nat) (hr : r < m.rooms.length) (hk : k < m.hours.toNat) => kn_fold ho hr hk hf0
  have hix0 : ∀ H, indexAddrV Tryz.prog H 88 a (.int .i64 0) = some (.vptr [.int .i64 f0.tell.what, .int .i64 f0.tell.num, .int .i64 f0.tell.hour]) := fun H => fks_idx hsl (k := 0) (p := f0.tell) (by rw [List.getElem?_map, hf0]; rfl) H
  have hmn : ∀ a b : Int, foldV minV .i64 a [.int .i64 b] = some (.int .i64 (minV a b)) := fun _ _ => rfl
  have hmx : ∀ a b : Int, foldV maxV .i64 a [.int .i64 b] = some (.int .i64 (maxV a b)) := fun _ _ => rfl
  rw [hnt] at hkn hlo hhi ⊢
  rw [hnn] at hcl k82 ⊢
  have HLOOK := Lib.hid hlook
  have HLO := Lib.hid hlo
  have HHI := Lib.hid hhi
  have HKN := Lib.hid hkn
  have HSL := Lib.hid hsl
  have HF0 := Lib.hid hf0
  have HG := Lib.hid hg
  have HMID := Lib.hid hmid
  have HR := Lib.hid hr3
  have HN := Lib.hid hn4
  have HL := Lib.hid hl29
  clear hm hb ho hx hsl hg hl hmid hnn hnt hn1 hn4 hol hr3 hl29 hl1 hlook hlo hhi hkn hf0
  refine ClR.walk (c := _) rfl Tryz.func23 rfl (by kernel_rfl) rfl isQ_fail ?_
  try simp only [entryEnv, Nat.reduceAdd, List.nil_append, List.cons_append, emptyHp]
  repeat' (first | refine goS ?_ | (apply U6; exact Z1; exact Z1; (focus (simp only [List.nil_append, List.append_nil]; first | exact k82 _ | exact hcl)); simp only [pM, pN, rR, rP]) | refine go2 (fun hh => ?_) (fun hh => ?_) | fail)
  refine W.loopV (m.rooms.length) [1, 4, 20] [1, 4] (fun k e lm hp => ∃ v, e.get 21 = some (.int .i64 ↑k) ∧ e.get 5 = some (v) ∧ Blt2 hp v 2 ((knG m nn k).map spanE) ∧ HExt ⟨dn, dm⟩ hp ∧ (∀ id off n, v = .row id off n → dn ≤ id)) ?_ ?_
  ·skip
   refine ⟨.nilslice, ?_, ?_, Blt2.nil, HExt.refl _, fun id off n e => by cases e⟩
   all_goals first | exact Z2 | (simp [go_sem, *]; done) | skip
  intro k e lm hp hk0 hce hcl hinv
  simp only [keepE, and_true] at hce
  obtain ⟨c1, c4, c20⟩ := hce
  simp only [go_sem, *, Nat.reduceLT, Int.reduceEq, Int.reduceBEq, Int.reduceLE, Int.reduceLT, Nat.reduceAdd, Nat.reduceBEq, Nat.reduceEqDiff, reduceIte, Nat.reduceLeDiff, Nat.reduceMul, Nat.reduceSub, reduceCtorEq] at c1 c4 c20
  simp only [keepL, and_true] at hcl
  obtain ⟨d1, d4⟩ := hcl
  simp only [go_sem, *, Nat.reduceLT, Int.reduceEq, Int.reduceBEq, Int.reduceLE, Int.reduceLT, Nat.reduceAdd, Nat.reduceBEq, Nat.reduceEqDiff, reduceIte, Nat.reduceLeDiff, Nat.reduceMul, Nat.reduceSub, reduceCtorEq] at d1 d4
  obtain ⟨v, h21, h5, hB, hX0, hlw⟩ := hinv
  by_cases hlt : k < m.rooms.length
  ·have hd0 : decide ((k : Int) < ((m.rooms.length : Nat) : Int)) = true := by first | (simpa using hlt; done) | (simp only [decide_eq_true_eq]; omega)
   have hv_0 := wrap_succ hlt (by have := HR.out; unfold maxL; omega)
   have hbo := hB.out
   have HB0 := Lib.hid hB
   have HX0 := Lib.hid hX0
   have HLW := Lib.hid hlw
   have HLT0 := Lib.hid hlt
   clear hlt hB hX0 hlw
   repeat' (first | refine goS ?_ | refine go2 (fun hh => ?_) (fun hh => ?_) | fail)
   refine W.loopV (nn) [1, 4, 5, 6, 20, 21, 25] [1, 4] (fun j e1 lm1 hp1 => ∃ u, e1.get 26 = some (.int .i64 ↑j) ∧ e1.get 7 = some (u) ∧ BltN hp.next hp1 u 2 (spanE (rowK m nn k j)) ∧ HExt hp hp1) ?_ ?_
   ·skip
    refine ⟨.nilslice, ?_, ?_, BltN.nil, HExt.refl _⟩
    all_goals first | exact Z2 | (simp [go_sem, *]; done) | skip
   intro j e1 lm1 hp1 hk1 hce hcl hinv
   simp only [keepE, and_true] at hce
   obtain ⟨c1, c4, c5, c6, c20, c21, c25⟩ := hce
   simp only [go_sem, *, Nat.reduceLT, Int.reduceEq, Int.reduceBEq, Int.reduceLE, Int.reduceLT, Nat.reduceAdd, Nat.reduceBEq, Nat.reduceEqDiff, reduceIte, Nat.reduceLeDiff, Nat.reduceMul, Nat.reduceSub, reduceCtorEq] at c1 c4 c5 c6 c20 c21 c25
   simp only [keepL, and_true] at hcl
   obtain ⟨d1, d4⟩ := hcl
   simp only [go_sem, *, Nat.reduceLT, Int.reduceEq, Int.reduceBEq, Int.reduceLE, Int.reduceLT, Nat.reduceAdd, Nat.reduceBEq, Nat.reduceEqDiff, reduceIte, Nat.reduceLeDiff, Nat.reduceMul, Nat.reduceSub, reduceCtorEq] at d1 d4
   obtain ⟨u, h26, h7, hB, hX⟩ := hinv
   by_cases hjt : j < nn
   ·have hd1 : decide ((j : Int) < ((nn : Nat) : Int)) = true := by first | (simpa using hjt; done) | (simp only [decide_eq_true_eq]; omega)
    have hv_1 := wrap_succ hjt (by have := HN.out; unfold maxL; omega)
    have hbo1 := hB.blt.out
    have hmg : hp1.get mid = some (.mp (entE m l)) := ((HX0.out.trans hX).2 mid HMID.out).trans HG.out
    have lk0 := HLOOK.out f0 (List.mem_of_getElem? HF0.out) hp1 hmg
    obtain ⟨b1, p1, p2, p3⟩ := HLO.out f0 k j HLT0.out hjt
    obtain ⟨b2, p4, p5, p6⟩ := HHI.out f0 k j HLT0.out hjt
    have hb0 : boundsE m f0 = .agg [slN (rowsE (lowG m f0)), slN (rowsE (highG m f0))] := by unfold boundsE lowG highG; rfl
    rw [hb0] at lk0
    have w1 := (slN_is (rowsE (lowG m f0))).out
    have w2 := (slN_is (rowsE (highG m f0))).out
    have hk := HKN.out k j HLT0.out hjt
    have hll : (spanE (rowK m nn k j)).length + 1 ≤ most := by unfold spanE; rw [List.length_map, rowK_len]; have := HN.out; unfold most; omega
    have hnx : rowK m nn k (j + 1) = rowK m nn k j ++ [airS m (rstP nn j k)] := rfl
    have HNX := Lib.hid hnx
    have HK := Lib.hid hk
    have HB := Lib.hid hB
    have HX := Lib.hid hX
    have HMG := Lib.hid hmg
    have HLT1 := Lib.hid hjt
    obtain ⟨gg, hng⟩ : ∃ gg, nextGen lm1 9 = gg := ⟨_, rfl⟩
    unfold nextGen at hng
    simp only [fkC] at lk0
    clear hb0 hk hnx hB hX hmg hjt
    generalize slN (rowsE (lowG m f0)) = g1 at *
    generalize slN (rowsE (highG m f0)) = g2 at *
    generalize ((lowG m f0).getD k []).getD j 0 = x0 at *
    generalize ((highG m f0).getD k []).getD j 0 = y0 at *
    repeat' (first | (apply Z7 (o := ⟨some 9, .alloc 56, 0, _, _, none⟩); exact rfl; exact rfl; exact Z1; simp only [pM, pN]) | (apply W.drawQ (id := 12) (l1 := [29, 0, 1, 2, 3, 4, 5, 6, 7, 8, 9, 10, 11, 12, 13, 14, 15, 16, 17, 18, 19, 20, 21, 22, 23, 24, 25, 26, 27, 28]) (l2 := [30]); kernel_rfl; kernel_rfl; kernel_rfl; exact Z4) | (apply W.drawQ (id := 17) (l1 := [0, 1, 2, 3, 4, 5, 6, 7, 8, 9, 10, 11, 12, 13, 14, 15, 16, 17, 18, 19, 20, 21, 22]) (l2 := [23]); kernel_rfl; kernel_rfl; kernel_rfl; exact Z4) | refine go1 ?_ | refine go2 (fun hh => ?_) (fun hh => ?_) | fail)
    refine W.loopH ((failsH m).length) [1, 4, 5, 6, 7, 8, 9, 20, 21, 25, 26, 59, 60] [1, 4] (fun i e2 lm2 => ∃ s, e2.get 61 = some (.int .i64 ↑i) ∧ lm2.get 9 = some (gg, [.int .i64 s.1, .int .i64 s.2]) ∧ knGo m nn k j i s) ?_ ?_
    ·skip
     refine ⟨(x0, y0), ?_, ?_, HK.out.symm⟩
     all_goals first | exact Z2 | (simp [go_sem, *]; done) | skip
    intro i e2 lm2 hk2 hce hcl hinv
    simp only [keepE, and_true] at hce
    obtain ⟨c1, c4, c5, c6, c7, c8, c9, c20, c21, c25, c26, c59, c60⟩ := hce
    simp only [go_sem, *, Nat.reduceLT, Int.reduceEq, Int.reduceBEq, Int.reduceLE, Int.reduceLT, Nat.reduceAdd, Nat.reduceBEq, Nat.reduceEqDiff, reduceIte, Nat.reduceLeDiff, Nat.reduceMul, Nat.reduceSub, reduceCtorEq] at c1 c4 c5 c6 c7 c8 c9 c20 c21 c25 c26 c59 c60
    simp only [keepL, and_true] at hcl
    obtain ⟨d1, d4⟩ := hcl
    simp only [go_sem, *, Nat.reduceLT, Int.reduceEq, Int.reduceBEq, Int.reduceLE, Int.reduceLT, Nat.reduceAdd, Nat.reduceBEq, Nat.reduceEqDiff, reduceIte, Nat.reduceLeDiff, Nat.reduceMul, Nat.reduceSub, reduceCtorEq] at d1 d4
    obtain ⟨s, h61, g9, hs⟩ := hinv
    by_cases hit : i < (failsH m).length
    ·have hd2 : decide ((i : Int) < (((failsH m).length : Nat) : Int)) = true := by first | (simpa using hit; done) | (simp only [decide_eq_true_eq]; omega)
     have hv_2 := wrap_succ hit (by have := HL.out; unfold maxL; omega)
     obtain ⟨f, hf⟩ := get_some hit
     have hix := fun H => fks_idx HSL.out (k := i) (p := f.tell) (by rw [List.getElem?_map, hf]; rfl) H
     have lkf := HLOOK.out f (List.mem_of_getElem? hf) hp1 HMG.out
     obtain ⟨c1', r1, r2, r3⟩ := HLO.out f k j HLT0.out HLT1.out
     obtain ⟨c2', r4, r5, r6⟩ := HHI.out f k j HLT0.out HLT1.out
     have hbf : boundsE m f = .agg [slN (rowsE (lowG m f)), slN (rowsE (highG m f))] := by unfold boundsE lowG highG; rfl
     rw [hbf] at lkf
     have v1 := (slN_is (rowsE (lowG m f))).out
     have v2 := (slN_is (rowsE (highG m f))).out
     obtain ⟨d1, d2⟩ := List.getElem?_eq_some_iff.1 hf
     unfold knGo at hs
     rw [List.drop_eq_getElem_cons d1, d2, List.map_cons, List.map_cons, List.foldl_cons, List.foldl_cons] at hs
     obtain ⟨s1, s2⟩ := s
     simp only at hs
     have HSN := Lib.hid hs
     have HLT2 := Lib.hid hit
     obtain ⟨ga, hna⟩ : ∃ ga, nextGen lm2 11 = ga := ⟨_, rfl⟩
     obtain ⟨gb, hnb⟩ : ∃ gb, nextGen lm2 12 = gb := ⟨_, rfl⟩
     unfold nextGen at hna hnb
     simp only [fkC] at lkf
     clear hbf hs hit hf d1 d2 hng
     generalize slN (rowsE (lowG m f)) = g3 at *
     generalize slN (rowsE (highG m f)) = g4 at *
     generalize ((lowG m f).getD k []).getD j 0 = x at *
     generalize ((highG m f).getD k []).getD j 0 = y at *
     repeat' (first | (apply Z7 (o := ⟨some 9, .alloc 56, 0, _, _, none⟩); exact rfl; exact rfl; exact Z1; simp only [pM, pN]) | (apply W.drawQ (id := 12) (l1 := [29, 0, 1, 2, 3, 4, 5, 6, 7, 8, 9, 10, 11, 12, 13, 14, 15, 16, 17, 18, 19, 20, 21, 22, 23, 24, 25, 26, 27, 28]) (l2 := [30]); kernel_rfl; kernel_rfl; kernel_rfl; exact Z4) | (apply W.drawQ (id := 17) (l1 := [0, 1, 2, 3, 4, 5, 6, 7, 8, 9, 10, 11, 12, 13, 14, 15, 16, 17, 18, 19, 20, 21, 22]) (l2 := [23]); kernel_rfl; kernel_rfl; kernel_rfl; exact Z4) | refine go1 ?_ | refine go2 (fun hh => ?_) (fun hh => ?_) | fail)
     all_goals refine contH_mk (by first | assumption | exact HLT2.out | exact HLT0.out) (by simp only [keepE, and_true, and_self, go_sem, *, Nat.reduceLT, Int.reduceEq, Int.reduceBEq, Int.reduceLE, Int.reduceLT, Nat.reduceAdd, Nat.reduceBEq, Nat.reduceEqDiff, reduceIte, Nat.reduceLeDiff, Nat.reduceMul, Nat.reduceSub, reduceCtorEq]) (by simp only [keepL, and_true, and_self, go_sem, *, Nat.reduceLT, Int.reduceEq, Int.reduceBEq, Int.reduceLE, Int.reduceLT, Nat.reduceAdd, Nat.reduceBEq, Nat.reduceEqDiff, reduceIte, Nat.reduceLeDiff, Nat.reduceMul, Nat.reduceSub, reduceCtorEq]) ?_
     all_goals refine ⟨(minV s1 x, maxV s2 y), ?_, ?_, HSN.out⟩
     all_goals first | exact Z2 | skip
    ·have hd2 : decide ((i : Int) < (((failsH m).length : Nat) : Int)) = false := by first | (simpa using hit; done) | (simp only [decide_eq_false_iff_not]; omega)
     obtain rfl : i = (failsH m).length := by omega
     unfold knGo at hs
     rw [List.drop_of_length_le (Nat.le_refl _)] at hs
     simp only [List.map_nil, List.foldl_nil] at hs
     have hse : s = airS m (rstP nn j k) := hs
     have HSE := Lib.hid hse
     have hB := HB.out
     have hX := HX.out
     clear hs hse hng
     repeat' (first | (apply WO1.appendN (t := 104) (u := 104) (e := 56) (e' := 56) (sz := 2) (tl := []) (hb := hB) (hx := HExt.pair hX); exact Z1; exact rfl; exact Z2; exact Z2; exact Z2; (focus (exact ty_row104)); exact Z1; (focus (intro v hv; simp at hv; subst hv; first | rfl | exact hsc)); (focus (simp only [List.length_map, List.length_cons, List.length_nil]; exact hll)); (focus (simp)); (intro v' h' hB' ho' hX'; have hcc' := hB'.blt.cells; have htt' := hB'.blt.tup; simp only [AV.cells] at hcc'; simp only [isTuple] at htt'; simp only [pM, pN])) | refine go1 ?_ | refine go2 (fun hh => ?_) (fun hh => ?_) | fail)
     all_goals refine contV_mk (by first | assumption | exact HLT1.out | exact HLT0.out) (by simp only [keepE, and_true, and_self, go_sem, *, Nat.reduceLT, Int.reduceEq, Int.reduceBEq, Int.reduceLE, Int.reduceLT, Nat.reduceAdd, Nat.reduceBEq, Nat.reduceEqDiff, reduceIte, Nat.reduceLeDiff, Nat.reduceMul, Nat.reduceSub, reduceCtorEq]) (by simp only [keepL, and_true, and_self, go_sem, *, Nat.reduceLT, Int.reduceEq, Int.reduceBEq, Int.reduceLE, Int.reduceLT, Nat.reduceAdd, Nat.reduceBEq, Nat.reduceEqDiff, reduceIte, Nat.reduceLeDiff, Nat.reduceMul, Nat.reduceSub, reduceCtorEq]) ?_
     all_goals refine ⟨v', ?_, ?_, ?_, hX'⟩
     all_goals first | exact Z2 | skip
     ·rw [HNX.out, spanE_app, ← HSE.out]; exact hB'
   ·have hd1 : decide ((j : Int) < ((nn : Nat) : Int)) = false := by first | (simpa using hjt; done) | (simp only [decide_eq_false_iff_not]; omega)
    obtain rfl : j = nn := by omega
    have hB2 := HB0.out.keep hX
    have hin := InR.of (h0 := hp) hB HB0.out.below
    obtain ⟨el, hbl, hel, hall⟩ := hB2
    have hA := hbl.toN
    have hbo1 := hB.blt.out
    have hcc := hB.blt.cells
    have htt := hB.blt.tup
    have hsc : u.cells.length = 1 := by rw [hcc]; rfl
    simp only [AV.cells] at hcc
    simp only [isTuple] at htt
    have hll : el.length + 1 ≤ most := by rw [hel, List.length_map, knG_len]; have := HR.out; have := HLT0.out; unfold most; omega
    have HIN := Lib.hid hin
    have HEL := Lib.hid hel
    have HALL := Lib.hid hall
    have HXX := Lib.hid (HX0.out.trans hX)
    have HMX := Lib.hid (Nat.le_trans HX0.out.1 hX.1)
    clear hB hX hin hel hall hbl
    repeat' (first | (apply WO1.appendX (t := 30) (u := 30) (e := 104) (e' := 104) (sz := 1) (tl := []) (b := 0) (h0 := ⟨0, .nil⟩) (hb := hA) (hx := ⟨Nat.zero_le _, fun id h => absurd h (Nat.not_lt_zero id)⟩); exact Z1; exact rfl; exact Z2; exact Z2; exact Z2; (focus (exact ty_row30)); exact Z1; (focus (intro v hv; simp at hv; subst hv; first | rfl | exact hsc)); (focus (simp only [List.length_map, List.length_cons, List.length_nil]; exact hll)); (focus (simp)); (intro v' h' hB' ho' hK' hE' hX'; have hcc' := hB'.blt.cells; have htt' := hB'.blt.tup; simp only [AV.cells] at hcc'; simp only [isTuple] at htt'; simp only [pM, pN])) | refine go1 ?_ | refine go2 (fun hh => ?_) (fun hh => ?_) | fail)
    all_goals refine contV_mk (by first | assumption | exact HLT0.out | exact HLT0.out) (by simp only [keepE, and_true, and_self, go_sem, *, Nat.reduceLT, Int.reduceEq, Int.reduceBEq, Int.reduceLE, Int.reduceLT, Nat.reduceAdd, Nat.reduceBEq, Nat.reduceEqDiff, reduceIte, Nat.reduceLeDiff, Nat.reduceMul, Nat.reduceSub, reduceCtorEq]) (by simp only [keepL, and_true, and_self, go_sem, *, Nat.reduceLT, Int.reduceEq, Int.reduceBEq, Int.reduceLE, Int.reduceLT, Nat.reduceAdd, Nat.reduceBEq, Nat.reduceEqDiff, reduceIte, Nat.reduceLeDiff, Nat.reduceMul, Nat.reduceSub, reduceCtorEq]) ?_
    all_goals refine ⟨v', ?_, ?_, ?_, ?_, ?_⟩
    all_goals first | exact Z2 | skip
    ·rw [knG, List.map_append]
     exact Blt2.app HALL.out HEL.out hK' hB'.blt hE' HIN.out
    ·refine ⟨Nat.le_trans HMX.out hK'.1, fun id hid => ?_⟩
     have hid' : id < dn := hid
     rw [hK'.2 id (Nat.lt_of_lt_of_le hid HMX.out) (fun off n e => by have := HLW.out id off n e; omega)]
     exact HXX.out.2 id hid
    ·intro id off n e
     rw [hE'] at e
     cases e
     exact HMX.out
  ·have hd0 : decide ((k : Int) < ((m.rooms.length : Nat) : Int)) = false := by first | (simpa using hlt; done) | (simp only [decide_eq_false_iff_not]; omega)
   obtain rfl : k = m.rooms.length := by omega
   have hfr : Frz hp v (slN (spansE (knG m nn m.rooms.length))) := by
    rw [← spans_map]
    refine hB.frz (fun l hl e he => ?_) (fun l hl e he x hx => ?_)
    ·obtain ⟨l', _, rfl⟩ := List.mem_map.1 hl
     obtain ⟨n, _, rfl⟩ := List.mem_map.1 he
     rfl
    ·obtain ⟨l', _, rfl⟩ := List.mem_map.1 hl
     obtain ⟨n, _, rfl⟩ := List.mem_map.1 he
     simp only [spC, AV.cells, List.mem_cons, List.not_mem_nil, or_false] at hx
     rcases hx with rfl | rfl <;> exact ⟨rfl, rfl⟩
   have hbo := hB.out
   have HFR := Lib.hid hfr
   clear hB hfr hX0 hlw
   repeat' (first | refine goS ?_ | refine go2 (fun hh => ?_) (fun hh => ?_) | fail)
   all_goals (simp only [resV_def (X := dX cN0) Tryz.func23, Tryz.results23]; first | exact J5 | refine J6 ?_)
   refine isQ_ret (.tuple rfl (fun i hi => ?_))
   have : i = 0 ∨ i = 1 := by simp only [List.length_cons, List.length_nil] at hi; omega
   rcases this with rfl | rfl
   ·exact HFR.out
   ·exact .flat rfl
theorem F23 : IntrFn Tryz.prog 23 (newQ sp23) := newQ_fn (X := dX cN0) cN0_sound fun args v h => by
 unfold sp23 at h
 split at h
 ·rename_i x
  cases hm : hsV x with
  | none => rw [hm] at h; cases h
  | some m =>
   rw [hm] at h
   have h := Option.some.inj h
   subst h
   obtain ⟨ra, fa, oa, ha, rfl, hA⟩ := hs_parts' hm
   exact R23 m ra fa oa ha hA
 ·cases h
theorem K23 {X : Ctx} (hX : X.intr 23 = some (newQ sp23)) {ra fa oa ha : AV} {m : Hs} (hm : HsA m ra fa oa ha) (h : Heap) :
  Cl X 23 [.agg [.int .i64 m.hours, ra, fa, oa, ha]] h (.ret (knV m) h none) := by
 refine Cl.newQ hX (l := [.agg [.int .i64 m.hours, ra, fa, oa, ha]]) ?_ ?_
 ·exact viewDs_p (by simp only [AV.purL, AV.pur, sl_pur hm.r, sl_pur hm.f, sl_pur hm.o, sl_pur hm.h, Bool.and_self])
 ·simp only [sp23, hm.hs, Option.map_some]
end Go.AM
namespace Go.AM
open Go
variable [Keep]
theorem flat_of_pure {P : Program} {f : FuncId} {spec : List AV → Option AV} (hp : ∀ args v, spec args = some v → v.flat = true) (hI : IntrFn P f (pureFn spec)) : IntrFn P f (flatFnD spec) := by
  intro args h v h' hg C w vs r hv
  unfold flatFnD at hg
  split at hg
  · rename_i l hl
    split at hg
    · rename_i u hsp
      cases hg
      obtain ⟨p1, p2⟩ := viewDs_ok r hv hl
      have hpl : AV.purL l = true := by
        clear hl hsp p2
        induction l with
        | nil => rfl
        | cons a l ih =>
          simp only [AV.purL, Bool.and_eq_true]
          exact ⟨p1 a (List.mem_cons_self ..), ih fun a ha => p1 a (List.mem_cons_of_mem _ ha)⟩
      have hok := hI l emptyHp v emptyHp (by simp only [pureFn, hpl, if_true, hsp]) ⟨fun _ => none, w.cell?⟩ w vs ⟨fun _ _ h => h, fun id blk e => by simp [emptyHp, Heap.get] at e, fun id id' blk blk' L L' e => by simp [emptyHp, Heap.get] at e, fun id blk L x v e => by simp [emptyHp, Heap.get] at e, fun id L e => (by cases e), r.base.on r.sig (fun _ _ _ => rfl)⟩ p2
      refine ⟨hok.1, fun cs => ?_⟩
      have := hok.2 cs
      obtain ⟨C', w', fr, u, q1, q2, q3, q4, q5, q6⟩ := this
      have hsame : ∀ β, β < w.heap.size → w'.heap[β]? = w.heap[β]? := fun β hb => q6.same β hb emptyHp_live id
      refine ⟨C, w', fr, u, q1, q2, q3, q4.flat (hp _ _ hsp), ⟨fun x u e => ?_, fun id blk e => ?_, r.inj, r.apart, r.fresh, r.base.on (fun _ _ e => e) (fun x v e => hsame _ (WR.sig_lt (F := Fr.mk 0 false .nil .nil h [] none) r e))⟩, ?_⟩
      · have h1 := r.sig x u e
        have hb := WR.sig_lt (F := Fr.mk 0 false .nil .nil h [] none) r e
        unfold World.cell? at h1 ⊢
        rw [hsame _ hb]
        exact h1
      · obtain ⟨L, k1, k2⟩ := r.blk id blk e
        exact ⟨L, k1, k2.same (.refl C) (hsame _ k2.lt)⟩
      · exact { le := .refl C, os := q6.os, tape := q6.tape, output := q6.output, size := q6.size, same := fun β hb _ _ => hsame β hb, live := fun β hb l => .inl l,
                own := fun _ _ o => o.elim, sig := fun x u hb e => .inl e, next := Nat.le_refl _ }
    · cases hg
  · cases hg
end Go.AM
