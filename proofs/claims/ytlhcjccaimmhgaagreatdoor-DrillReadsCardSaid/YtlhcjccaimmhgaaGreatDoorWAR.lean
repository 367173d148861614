/-
  A part of the proof: contracts of functions.
-/
import Derived.Test.YtlhcjccaimmhgaaGreatDoorWAQ
import Derived.Test.YtlhcjccaimmhgaaGreatDoorWAP
import Derived.Test.YtlhcjccaimmhgaaGreatDoorWAG
set_option linter.unusedSectionVars false
set_option linter.unusedVariables false
set_option linter.unusedSimpArgs false
set_option maxRecDepth 100000
namespace Go.AM
open Go Go.Proofs
variable [Keep]
attribute [local irreducible] W WO WO1 WD WQ WT thenQ blockQ endR isRet retK Cl ClR
attribute [local irreducible] numsW numW readR readM textM okM
set_option maxHeartbeats 16000000 in
theorem C142 (c : Itr) (hc : c 142 = none) (hc9 : c 184 = none) (hc0 : c 202 = none) (hc1 : c 185 = none) (hc2 : c 210 = some (pureFn sp221)) (hc3 : c 181 = some (atOnce spItoa)) (hc4 : c 183 = some (atOnce spSplit)) (hc5 : c 140 = some (flatFnD sp140)) (s : List UInt8) (h : Heap) (hs : s.length ≤ 400) :
  ClR (dX c) 142 [.str s] h (readR s h) := by
 have k183 := fun h => K183 (X := dX c) hc4 s 10 (by unfold maxL; omega) h
 obtain ⟨hl1, hl2⟩ := spL_len 10 s
 have hrh := read_head (s := s)
 have hrn := fun hd => read_nok (s := s) (hd := hd)
 have hro := fun hd => read_ok (s := s) (hd := hd)
 have hne := spL_ne 10 s
 generalize spL 10 s = ls at *
 obtain ⟨l0, L0, rfl⟩ : ∃ l0 L0, ls = l0 :: L0 := by
  cases ls with
  | nil => exact absurd rfl hne
  | cons a b => exact ⟨a, b, rfl⟩
 have hL : L0.length ≤ 400 := by simp only [List.length_cons] at hl1; omega
 have ha := strs_sl (l0 :: L0) (by simp only [List.length_cons]; unfold maxL; omega)
 have hlen := sl_len ha
 have hout := sl_out ha
 have hix0 : ∀ H, indexAddrV Tryz.prog H 208 (.vslice ((l0 :: L0).map AV.str)) (.int .i64 0) = some (.vptr [.str l0]) := fun H => strs_idx ha (k := 0) rfl H
 have hcut1 := cut208 (l := l0 :: L0) (a := 1) (x := 1) rfl (by simp)
 simp only [List.drop_succ_cons, List.drop_zero] at hcut1
 have e0 : (l0 :: L0).getD 0 [] = l0 := rfl
 rw [e0] at hrh hrn hro
 have hLL : (l0 :: L0).length = L0.length + 1 := rfl
 have hC0 := C184 c hc9 hc0 hc1 hc2 hc3 hc4 l0 wMach 2 h (by have := hl2 l0 (List.mem_cons_self ..); omega) (by omega)
 unfold ClR numsR at hC0
 obtain ⟨r0, hcl, hq, hqx, hr0⟩ := hC0
 simp only [wMach] at hcl
 have hcl : Cl (dX c) 184 [.str l0, .str [109, 97, 99, 104, 105, 110, 101], .int .i64 2] h r0 := hcl
 have HRH := Lib.hid hrh
 have HRN := Lib.hid hrn
 have HRO := Lib.hid hro
 have HL2 := Lib.hid hl2
 have HA := Lib.hid ha
 clear hrh hrn hro hl2 hne hl1 ha e0
 generalize hva : AV.vslice ((l0 :: L0).map AV.str) = va at *
 have HVA := Lib.hid hva
 clear hva
 cases hnw : numsW l0 wMach 2 with
 | none =>
  rw [hnw] at hr0
  obtain ⟨u, rfl⟩ := hr0
  have hno := HRH.out hnw
  have HNO := Lib.hid hno
  have HQX := Lib.hid hqx
  clear hnw hno hqx
  refine ClR.walk (c := _) hc Tryz.func142 rfl (by kernel_rfl) rfl readR_fail ?_
  simp only [entryEnv, Nat.reduceAdd]
  repeat' (first | (simp only [tP, bP, eP, true_and]) | refine go1 ?_ | (apply U6; exact Z1; exact Z1; (focus (simp only [List.nil_append, List.append_nil]; first | exact k183 _ | exact hcl)); simp only [pM, pN, rR, rP]) | refine go2 (fun hh => ?_) (fun hh => ?_) | fail)
  exact readR_pan HQX.out HNO.out
 | some hd =>
  rw [hnw] at hr0
  obtain ⟨n1, n2⟩ := nums_is hnw
  obtain ⟨A, B, rfl⟩ : ∃ A B, hd = [A, B] := by
   match hd, n1 with
   | [A, B], _ => exact ⟨A, B, rfl⟩
  simp only at hr0
  subst hr0
  have hcl : Cl (dX c) 184 [.str l0, .str [109, 97, 99, 104, 105, 110, 101], .int .i64 2] h (.ret (.vslice [.int .i64 A, .int .i64 B]) hq none) := hcl
  simp only [List.all_cons, List.all_nil, Bool.and_true, Bool.and_eq_true] at n2
  obtain ⟨nA, nB⟩ := n2
  unfold smallN at nA nB
  simp only [Bool.and_eq_true, decide_eq_true_eq] at nA nB
  have i0 := fun H => (idx2 A B H).1
  have i1 := fun H => (idx2 A B H).2
  have wa : IntKind.i64.wrap (A + B) = A + B := wrap_small (by omega) (by omega)
  have wb : IntKind.i64.wrap (A + B + 5) = A + B + 5 := wrap_small (by omega) (by omega)
  have hno := HRN.out _ hnw
  have hyes := HRO.out _ hnw
  have HNO := Lib.hid hno
  have HYES := Lib.hid hyes
  have HQX := Lib.hid hqx
  clear hnw hno hyes hqx n1
  by_cases hok : hdOk (l0 :: L0) [A, B] = true
  ·have hok2 := hok
   unfold hdOk at hok2
   simp only [Bool.and_eq_true, decide_eq_true_eq, List.getD_cons_zero, List.getD_cons_succ] at hok2
   obtain ⟨⟨hA, hB⟩, hlen5⟩ := hok2
   obtain ⟨a, rfl⟩ : ∃ a : Nat, A = a := ⟨A.toNat, by omega⟩
   obtain ⟨b, rfl⟩ : ∃ b : Nat, B = b := ⟨B.toNat, by omega⟩
   have c1 : decide (((a : Nat) : Int) ≥ 0) = true := by simp
   have c2 : decide (((b : Nat) : Int) ≥ 0) = true := by simp
   have c3 : (((l0 :: L0).length : Int) == (a : Int) + (b : Int) + 5) = true := by rw [beq_iff_eq]; exact hlen5
   have k185 := fun h => C185 c hc1 true s h
   simp only [sureC, if_true] at k185
   have hyes := HYES.out hok
   simp only [List.getD_cons_zero, List.getD_cons_succ, Int.toNat_natCast] at hyes
   have hln : (l0 :: L0).length = a + b + 5 := by omega
   obtain ⟨cL, wL, T2, hT, hbd, hRe, hb2⟩ := body_parts hln
   simp only [List.drop_succ_cons, List.drop_zero] at hT hbd
   rw [hbd] at hyes
   have hcut2 := cut208b (l := L0) (b := a) (x := (a : Int)) rfl (by rw [hLL] at hln; omega)
   have hcut3 := cut208 (l := L0) (a := a) (x := (a : Int)) rfl (by rw [hLL] at hln; omega)
   rw [hT] at hcut3
   have hcut4 := cut208c (l := cL :: wL :: T2) (a := 2) (b := b + 2) (x := 2) (y := ((b + 2 : Nat) : Int)) rfl rfl (by omega) (by simp; omega)
   have wc : IntKind.i64.wrap ((b : Int) + 2) = ((b + 2 : Nat) : Int) := by rw [wrap_small (by omega) (by omega)]; omega
   have hSlen : (L0.take a).length = a := by rw [List.length_take]; rw [hLL] at hln; omega
   have hmS : ∀ l ∈ L0.take a, l.length ≤ 1000 := fun l hl => by have := HL2.out l (List.mem_cons_of_mem _ (List.mem_of_mem_take hl)); omega
   have hmT : ∀ l ∈ cL :: wL :: T2, l.length ≤ 1000 := fun l hl => by
    rw [← hT] at hl
    have := HL2.out l (List.mem_cons_of_mem _ (List.mem_of_mem_drop hl))
    omega
   have hRlen : (((cL :: wL :: T2).take (b + 2)).drop 2).length = b := by rw [hRe, List.length_take]; omega
   have hmR : ∀ l ∈ ((cL :: wL :: T2).take (b + 2)).drop 2, l.length ≤ 1000 := fun l hl => hmT l (List.mem_of_mem_take (List.mem_of_mem_drop hl))
   have hmc := hmT cL (by simp)
   have hmw := hmT wL (by simp)
   have hsS := strs_sl (L0.take a) (by unfold maxL; omega)
   have hTl : (cL :: wL :: T2).length ≤ 400 := by rw [← hT, List.length_drop]; omega
   have hsT := strs_sl (cL :: wL :: T2) (by unfold maxL; omega)
   have hsR := strs_sl (((cL :: wL :: T2).take (b + 2)).drop 2) (by unfold maxL; omega)
   have iT0 : ∀ H, indexAddrV Tryz.prog H 208 (.vslice ((cL :: wL :: T2).map AV.str)) (.int .i64 0) = some (.vptr [.str cL]) := fun H => strs_idx hsT (k := 0) rfl H
   have iT1 : ∀ H, indexAddrV Tryz.prog H 208 (.vslice ((cL :: wL :: T2).map AV.str)) (.int .i64 1) = some (.vptr [.str wL]) := fun H => strs_idx hsT (k := 1) rfl H
   have hRemp : mapO (fun l => numsW l wRead 4) ((((cL :: wL :: T2).take (b + 2)).drop 2).take 0) = some [] := by simp [mapO]
   clear hRe hb2 hbd hT hln hlen5 hmT hTl hsT hA hB hok HNO HYES HRO HRN HRH
   generalize hSq : L0.take a = S at *
   generalize hTq : cL :: wL :: T2 = T at *
   generalize hRq : (T.take (b + 2)).drop 2 = R at *
   clear hSq hTq hRq
   have lS : (S.map AV.str).length = a := by rw [List.length_map, hSlen]
   have lR : (R.map AV.str).length = b := by rw [List.length_map, hRlen]
   have lenS1 : lenS (.vslice (S.map AV.str)) = some a := by rw [lenS_vslice, lS]
   have lenR1 : lenS (.vslice (R.map AV.str)) = some b := by rw [lenS_vslice, lR]
   have HS := Lib.hid hsS
   have HR := Lib.hid hsR
   have HMS := Lib.hid hmS
   have HMR := Lib.hid hmR
   have HSL := Lib.hid hSlen
   have HRL := Lib.hid hRlen
   have HYES := Lib.hid hyes
   have HHL := Lib.hid hL
   have HREMP := Lib.hid hRemp
   have HMC := Lib.hid hmc
   have HMW := Lib.hid hmw
   have ha99 : a ≤ 99 := by omega
   have hb99 : b ≤ 99 := by omega
   generalize (l0 :: L0).length = LN at *
   clear hsS hsR hmS hmR hSlen hRlen hyes hL hLL lS lR hRemp hmc hmw nA nB
   refine ClR.walk (c := _) hc Tryz.func142 rfl (by kernel_rfl) rfl readR_fail ?_
   simp only [entryEnv, Nat.reduceAdd]
   repeat' (first | (apply W.drawQ (id := 3) (l1 := [0, 1, 2, 3, 4, 5, 6, 7, 8, 9, 10, 11, 12, 13, 14, 15, 16, 17, 18, 19, 20, 21, 22, 23, 24]) (l2 := []); kernel_rfl; kernel_rfl; kernel_rfl; exact Z4) | (apply U4 (v := .vslice (L0.map AV.str)); (focus (simp only [go_sem, *, Nat.reduceLT, Int.reduceEq, Int.reduceBEq, Int.reduceLE, Int.reduceLT, Nat.reduceAdd, Nat.reduceBEq, Nat.reduceEqDiff, reduceIte, Nat.reduceLeDiff, Nat.reduceMul, Nat.reduceSub, reduceCtorEq, Option.map_none, Option.map_some]; done)); exact rfl; simp only [pM, pN, rR, rP]) | (apply U4 (v := .vslice (S.map AV.str)); (focus (simp only [go_sem, *, Nat.reduceLT, Int.reduceEq, Int.reduceBEq, Int.reduceLE, Int.reduceLT, Nat.reduceAdd, Nat.reduceBEq, Nat.reduceEqDiff, reduceIte, Nat.reduceLeDiff, Nat.reduceMul, Nat.reduceSub, reduceCtorEq, Option.map_none, Option.map_some]; done)); exact rfl; simp only [pM, pN, rR, rP]) | refine go1 ?_ | (apply U6; exact Z1; exact Z1; (focus (simp only [List.nil_append, List.append_nil]; first | exact k183 _ | exact hcl | exact k185 _)); simp only [pM, pN, rR, rP]) | refine go2 (fun hh => ?_) (fun hh => ?_) | fail)
   clear k183 hcl hix0 hcut1 hcut2 wa wb c1 c2 c3
   refine W.loopN a (fun k F => ∃ e lm hp u g acc, F = Fr.mk 142 false e lm hp [] none ∧ mapO (fun l => numsW l wStop 2) (S.take k) = some acc ∧ acc.length = k ∧ BltN h.next hp u 2 ((acc.map ptOf).map ptC.enc) ∧ (h.next ≤ hp.next ∧ ∀ id, id < h.next → hp.get id = h.get id) ∧
    lm.get 2 = some (0, [.nilslice, .int .i64 0, .int .i64 0, .int .i64 0, .int .i64 0, .int .i64 0, .int .i64 0, .int .i64 0, .int .i64 0, .nilslice]) ∧ lm.get 5 = some (g, [u, .int .i64 0, .int .i64 0, .int .i64 0, .int .i64 0, .int .i64 0, .int .i64 0, .int .i64 0, .int .i64 0, .nilslice]) ∧ e.get 2 = some (.lptr 2 0 0) ∧ e.get 5 = some (.lptr 5 g 0) ∧ e.get 0 = some (.str s) ∧ e.get 3 = some (.vslice (L0.map AV.str)) ∧ e.get 4 = some (.vslice [.int .i64 ↑a, .int .i64 ↑b]) ∧ e.get 50 = some (.vslice (S.map AV.str)) ∧ e.get 51 = some (.int .i64 ↑a) ∧ e.get 52 = some (.int .i64 ↑k) ∧ k ≤ a) ?_ ?_
   ·refine ⟨_, _, _, _, 0, [], rfl, rfl, rfl, BltN.nil, HQX.out, ?_, ?_, ?_, ?_, ?_, ?_, ?_, ?_, ?_, ?_, Nat.zero_le _⟩
    all_goals first | exact Z2 | simp [go_sem, *]
   rintro k F ⟨e, lm, hp, u, g, acc, rfl, hmo, hal, hB, hX, g2, g5, h2, h5, h0, h3, h4, h50, h51, h52, hk⟩
   have hbo := hB.blt.out
   have hbc := hB.blt.cells
   have hbt := hB.blt.tup
   simp only [AV.cells] at hbc
   simp only [isTuple] at hbt
   have HMO := Lib.hid hmo
   have HAL := Lib.hid hal
   clear hmo hal
   by_cases hlt : k < a
   ·obtain ⟨p, hp'⟩ := get_some (show k < S.length by rw [HSL.out]; exact hlt)
    have hix := fun H => strs_idx HS.out hp' H
    have hd : decide ((k : Int) < (a : Int)) = true := by simpa using hlt
    have hw := wrap_succ hlt (by have := HSL.out; unfold maxL; omega)
    have hC1 := C184 c hc9 hc0 hc1 hc2 hc3 hc4 p wStop 2 hp (HMS.out p (List.mem_of_getElem? hp')) (by omega)
    unfold ClR numsR at hC1
    obtain ⟨r1, hcl, hq1, hqx1, hr1⟩ := hC1
    have hcl : Cl (dX c) 184 [.str p, .str [115, 116, 111, 112], .int .i64 2] hp r1 := hcl
    have HP := Lib.hid hp'
    have HLT := Lib.hid hlt
    clear hp' hlt
    cases hnw : numsW p wStop 2 with
    | none =>
     rw [hnw] at hr1
     obtain ⟨u1, rfl⟩ := hr1
     have hnn : readM s = none := by
      rw [HYES.out, bodyL_1 (mapO_none (List.mem_of_getElem? HP.out) hnw)]
     have HNN := Lib.hid hnn
     have hx2 : HExt h hq1 := HExt.trans hX hqx1
     have HX2 := Lib.hid hx2
     clear hnw hnn hx2 hqx1 hX hB
     repeat' (first | (simp only [tP, bP, eP, true_and]) | refine go1 ?_ | (apply U6; exact Z1; exact Z1; (focus (simp only [List.nil_append, List.append_nil]; first | exact hcl)); simp only [pM, pN, rR, rP]) | refine go2 (fun hh => ?_) (fun hh => ?_) | fail)
     exact readR_pan HX2.out HNN.out
    | some n =>
     rw [hnw] at hr1
     obtain ⟨n1, _⟩ := nums_is hnw
     have hnx := mapO_next (f := fun l => numsW l wStop 2) HP.out HMO.out hnw
     obtain ⟨x, y, rfl⟩ : ∃ x y, n = [x, y] := by
      match n, n1 with
      | [x, y], _ => exact ⟨x, y, rfl⟩
     simp only at hr1
     subst hr1
     have hcl : Cl (dX c) 184 [.str p, .str [115, 116, 111, 112], .int .i64 2] hp (.ret (.vslice [.int .i64 x, .int .i64 y]) hq1 none) := hcl
     have j0 := fun H => (idx2 x y H).1
     have j1 := fun H => (idx2 x y H).2
     have HNX := Lib.hid hnx
     replace hB := hB.keep hqx1
     replace hX : h.next ≤ hq1.next ∧ ∀ id, id < h.next → hq1.get id = h.get id := HExt.trans hX hqx1
     have hbo := hB.blt.out
     have hll : ((acc.map ptOf).map ptC.enc).length + 1 ≤ most := by simp only [List.length_map]; have := HAL.out; have := HHL.out; have := HSL.out; have := HLT.out; unfold most; omega
     clear hnx hnw hqx1 n1
     generalize hEq : (acc.map ptOf).map ptC.enc = ps at *
     have HEQ := Lib.hid hEq
     clear hEq
     repeat' (first | (apply W.drawQ (id := 10) (l1 := [0, 1, 2, 3, 4, 5, 6, 7, 8, 9]) (l2 := [10, 11, 12]); kernel_rfl; kernel_rfl; kernel_rfl; exact Z4) | (apply WO1.appendM (t := 22) (u := 22) (e := 38) (e' := 38) (sz := 2) (tl := []) (b := h.next) (h0 := h) (hb := hB) (hx := hX); exact Z1; exact rfl; exact Z2; exact Z2; exact Z2; (focus (exact ty_row22)); exact Z1; (focus (intro v hv; simp at hv; subst hv; rfl)); (focus (simp only [List.length_cons, List.length_nil]; exact hll)); (focus (simp)); (intro v' h' hB' ho' hK' hX'; have hcc' := hB'.blt.cells; have htt' := hB'.blt.tup; simp only [AV.cells] at hcc'; simp only [isTuple] at htt'; simp only [pM, pN])) | refine go1 ?_ | (apply U6; exact Z1; exact Z1; (focus (simp only [List.nil_append, List.append_nil]; first | exact hcl)); simp only [pM, pN, rR, rP]) | refine go2 (fun hh => ?_) (fun hh => ?_) | fail)
     refine ⟨HLT.out, _, _, _, v', g, acc ++ [[x, y]], rfl, HNX.out, by have := HAL.out; simp [this], ?_, hX', ?_, ?_, ?_, ?_, ?_, ?_, ?_, ?_, ?_, ?_, HLT.out⟩
     ·rw [List.map_append, List.map_append, HEQ.out]
      exact hB'
     all_goals exact Z2
   ·have hd : decide ((k : Int) < (a : Int)) = false := by simpa using hlt
    have hkl : S.take k = S := List.take_of_length_le (by rw [HSL.out]; omega)
    have hmo := HMO.out
    rw [hkl] at hmo
    have HMO := Lib.hid hmo
    have hacc : acc.length ≤ 99 := by have := HAL.out; omega
    have hC2 := C184 c hc9 hc0 hc1 hc2 hc3 hc4 cL wChuck 4 hp HMC.out (by omega)
    unfold ClR numsR at hC2
    obtain ⟨r2, hclc, hq2, hqx2, hr2⟩ := hC2
    have hclc : Cl (dX c) 184 [.str cL, .str [99, 104, 117, 99, 107], .int .i64 4] hp r2 := hclc
    clear hmo hkl hlt hk
    cases hnw : numsW cL wChuck 4 with
    | none =>
     rw [hnw] at hr2
     obtain ⟨u1, rfl⟩ := hr2
     have hnn : readM s = none := by
      rw [HYES.out, bodyL_2 HMO.out hnw]
     have HNN := Lib.hid hnn
     have hx2 : HExt h hq2 := HExt.trans hX hqx2
     have HX2 := Lib.hid hx2
     clear hnw hnn hx2 hqx2 hX hB
     have hcl := hclc
     repeat' (first | (simp only [tP, bP, eP, true_and]) | (apply U4 (v := .vslice (T.map AV.str)); (focus (simp only [go_sem, *, Nat.reduceLT, Int.reduceEq, Int.reduceBEq, Int.reduceLE, Int.reduceLT, Nat.reduceAdd, Nat.reduceBEq, Nat.reduceEqDiff, reduceIte, Nat.reduceLeDiff, Nat.reduceMul, Nat.reduceSub, reduceCtorEq, Option.map_none, Option.map_some]; done)); exact rfl; simp only [pM, pN, rR, rP]) | refine go1 ?_ | (apply U6; exact Z1; exact Z1; (focus (simp only [List.nil_append, List.append_nil]; first | exact hcl)); simp only [pM, pN, rR, rP]) | refine go2 (fun hh => ?_) (fun hh => ?_) | fail)
     exact readR_pan HX2.out HNN.out
    | some n =>
     rw [hnw] at hr2
     obtain ⟨n1, _⟩ := nums_is hnw
     obtain ⟨c0, c1, c2, c3, rfl⟩ : ∃ x y z u, n = [x, y, z, u] := by
      match n, n1 with
      | [x, y, z, u], _ => exact ⟨x, y, z, u, rfl⟩
     simp only at hr2
     subst hr2
     have hclc : Cl (dX c) 184 [.str cL, .str [99, 104, 117, 99, 107], .int .i64 4] hp (.ret (.vslice [.int .i64 c0, .int .i64 c1, .int .i64 c2, .int .i64 c3]) hq2 none) := hclc
     have x0 := fun H => (idx4 c0 c1 c2 c3 H).1
     have x1 := fun H => (idx4 c0 c1 c2 c3 H).2.1
     have x2 := fun H => (idx4 c0 c1 c2 c3 H).2.2.1
     have x3 := fun H => (idx4 c0 c1 c2 c3 H).2.2.2
     have HC := Lib.hid hnw
     replace hB := hB.keep hqx2
     replace hX : h.next ≤ hq2.next ∧ ∀ id, id < h.next → hq2.get id = h.get id := HExt.trans hX hqx2
     have hC3 := C184 c hc9 hc0 hc1 hc2 hc3 hc4 wL wWear 4 hq2 HMW.out (by omega)
     unfold ClR numsR at hC3
     obtain ⟨r3, hclw, hq3, hqx3, hr3⟩ := hC3
     have hclw : Cl (dX c) 184 [.str wL, .str [119, 101, 97, 114], .int .i64 4] hq2 r3 := hclw
     clear hqx2 hnw n1
     cases hnw : numsW wL wWear 4 with
     | none =>
      rw [hnw] at hr3
      obtain ⟨u1, rfl⟩ := hr3
      have hnn : readM s = none := by
       rw [HYES.out, bodyL_3 HMO.out HC.out hnw]
      have HNN := Lib.hid hnn
      have hx2 : HExt h hq3 := HExt.trans hX hqx3
      have HX2 := Lib.hid hx2
      clear hnw hnn hx2 hqx3 hX hB
      repeat' (first | (apply W.draw (id := 14) (lc := [0, 1, 2, 3, 4, 5, 6, 7, 8, 9, 10, 11, 12, 13, 14, 15, 16, 17]) (hot := [(8, 15), (9, 15), (11, 15), (12, 15)]); kernel_rfl; kernel_rfl; kernel_rfl; exact Z4) | (apply WD.cons (o := ⟨some 88, _, _, _, _, none⟩); exact rfl; exact rfl) | (apply WD.cons (o := ⟨some 89, _, _, _, _, none⟩); exact rfl; exact rfl) | (apply WD.cons (o := ⟨some 90, _, _, _, _, none⟩); exact rfl; exact rfl) | (apply WD.cons (o := ⟨some 91, _, _, _, _, none⟩); exact rfl; exact rfl) | (apply WD.cons (o := ⟨some 92, _, _, _, _, none⟩); exact rfl; exact rfl) | (apply WD.cons (o := ⟨some 93, _, _, _, _, none⟩); exact rfl; exact rfl) | (apply WD.cons (o := ⟨some 94, _, _, _, _, none⟩); exact rfl; exact rfl) | (apply WD.cons (o := ⟨none, .store 48 (.tmp 94) (.tmp 86), _, _, _, none⟩); exact rfl; exact rfl) | (apply WD.cons (o := ⟨some 95, _, _, _, _, none⟩); exact rfl; exact rfl) | (apply WD.cons (o := ⟨none, .store 48 (.tmp 95) (.tmp 93), _, _, _, none⟩); exact rfl; exact rfl) | (refine WD.cons rfl rfl ?_) | (refine WD.nil ⟨?_, ?_⟩; rotate_left; simp only [tN, bN, eN, true_and]) | (refine calmR rfl rfl rfl rfl rfl ?_ ?_; (focus (first | exact Z2 | exact Z1))) | (refine calmE rfl rfl rfl rfl rfl ?_ ?_; (focus (first | exact Z2 | exact Z1))) | (with_reducible refine calmEnd) | (simp only [tP, bP, eP, true_and]) | (apply U4 (v := .vslice (T.map AV.str)); (focus (simp only [go_sem, *, Nat.reduceLT, Int.reduceEq, Int.reduceBEq, Int.reduceLE, Int.reduceLT, Nat.reduceAdd, Nat.reduceBEq, Nat.reduceEqDiff, reduceIte, Nat.reduceLeDiff, Nat.reduceMul, Nat.reduceSub, reduceCtorEq, Option.map_none, Option.map_some]; done)); exact rfl; simp only [pM, pN, rR, rP]) | refine go1 ?_ | (apply U6; exact Z1; exact Z1; (focus (simp only [List.nil_append, List.append_nil]; first | exact hclc | exact hclw)); simp only [pM, pN, rR, rP]) | refine go2 (fun hh => ?_) (fun hh => ?_) | fail)
      exact readR_pan HX2.out HNN.out
     | some n =>
      rw [hnw] at hr3
      obtain ⟨n1, _⟩ := nums_is hnw
      obtain ⟨w0, w1, w2, w3, rfl⟩ : ∃ x y z u, n = [x, y, z, u] := by
       match n, n1 with
       | [x, y, z, u], _ => exact ⟨x, y, z, u, rfl⟩
      simp only at hr3
      subst hr3
      have hclw : Cl (dX c) 184 [.str wL, .str [119, 101, 97, 114], .int .i64 4] hq2 (.ret (.vslice [.int .i64 w0, .int .i64 w1, .int .i64 w2, .int .i64 w3]) hq3 none) := hclw
      have y0 := fun H => (idx4 w0 w1 w2 w3 H).1
      have y1 := fun H => (idx4 w0 w1 w2 w3 H).2.1
      have y2 := fun H => (idx4 w0 w1 w2 w3 H).2.2.1
      have y3 := fun H => (idx4 w0 w1 w2 w3 H).2.2.2
      have HW := Lib.hid hnw
      replace hB := hB.keep hqx3
      replace hX : h.next ≤ hq3.next ∧ ∀ id, id < h.next → hq3.get id = h.get id := HExt.trans hX hqx3
      have HBU := Lib.hid hB
      clear hqx3 hnw n1 hB
      repeat' (first | (apply W.draw (id := 14) (lc := [0, 1, 2, 3, 4, 5, 6, 7, 8, 9, 10, 11, 12, 13, 14, 15, 16, 17]) (hot := [(8, 15), (9, 15), (11, 15), (12, 15)]); kernel_rfl; kernel_rfl; kernel_rfl; exact Z4) | (apply WD.cons (o := ⟨some 88, _, _, _, _, none⟩); exact rfl; exact rfl) | (apply WD.cons (o := ⟨some 89, _, _, _, _, none⟩); exact rfl; exact rfl) | (apply WD.cons (o := ⟨some 90, _, _, _, _, none⟩); exact rfl; exact rfl) | (apply WD.cons (o := ⟨some 91, _, _, _, _, none⟩); exact rfl; exact rfl) | (apply WD.cons (o := ⟨some 92, _, _, _, _, none⟩); exact rfl; exact rfl) | (apply WD.cons (o := ⟨some 93, _, _, _, _, none⟩); exact rfl; exact rfl) | (apply WD.cons (o := ⟨some 94, _, _, _, _, none⟩); exact rfl; exact rfl) | (apply WD.cons (o := ⟨none, .store 48 (.tmp 94) (.tmp 86), _, _, _, none⟩); exact rfl; exact rfl) | (apply WD.cons (o := ⟨some 95, _, _, _, _, none⟩); exact rfl; exact rfl) | (apply WD.cons (o := ⟨none, .store 48 (.tmp 95) (.tmp 93), _, _, _, none⟩); exact rfl; exact rfl) | (refine WD.cons rfl rfl ?_) | (refine WD.nil ⟨?_, ?_⟩; rotate_left; simp only [tN, bN, eN, true_and]) | (refine calmR rfl rfl rfl rfl rfl ?_ ?_; (focus (first | exact Z2 | exact Z1))) | (refine calmE rfl rfl rfl rfl rfl ?_ ?_; (focus (first | exact Z2 | exact Z1))) | (with_reducible refine calmEnd) | (apply W.draw (id := 16) (lc := [0, 1, 2, 3, 4, 5, 6, 7, 8, 9, 10, 11, 12, 13, 14, 15, 16, 17]) (hot := [(8, 15), (9, 15), (11, 15), (12, 15)]); kernel_rfl; kernel_rfl; kernel_rfl; exact Z4) | (apply WD.cons (o := ⟨some 108, _, _, _, _, none⟩); exact rfl; exact rfl) | (apply WD.cons (o := ⟨some 109, _, _, _, _, none⟩); exact rfl; exact rfl) | (apply WD.cons (o := ⟨some 110, _, _, _, _, none⟩); exact rfl; exact rfl) | (apply WD.cons (o := ⟨some 111, _, _, _, _, none⟩); exact rfl; exact rfl) | (apply WD.cons (o := ⟨some 112, _, _, _, _, none⟩); exact rfl; exact rfl) | (apply WD.cons (o := ⟨some 113, _, _, _, _, none⟩); exact rfl; exact rfl) | (apply WD.cons (o := ⟨some 114, _, _, _, _, none⟩); exact rfl; exact rfl) | (apply WD.cons (o := ⟨none, .store 48 (.tmp 114) (.tmp 106), _, _, _, none⟩); exact rfl; exact rfl) | (apply WD.cons (o := ⟨some 115, _, _, _, _, none⟩); exact rfl; exact rfl) | (apply WD.cons (o := ⟨none, .store 48 (.tmp 115) (.tmp 113), _, _, _, none⟩); exact rfl; exact rfl) | (refine WD.cons rfl rfl ?_) | (refine WD.nil ⟨?_, ?_⟩; rotate_left; simp only [tN, bN, eN, true_and]) | (refine calmR rfl rfl rfl rfl rfl ?_ ?_; (focus (first | exact Z2 | exact Z1))) | (refine calmE rfl rfl rfl rfl rfl ?_ ?_; (focus (first | exact Z2 | exact Z1))) | (with_reducible refine calmEnd) | (apply U4 (v := .vslice (T.map AV.str)); (focus (simp only [go_sem, *, Nat.reduceLT, Int.reduceEq, Int.reduceBEq, Int.reduceLE, Int.reduceLT, Nat.reduceAdd, Nat.reduceBEq, Nat.reduceEqDiff, reduceIte, Nat.reduceLeDiff, Nat.reduceMul, Nat.reduceSub, reduceCtorEq, Option.map_none, Option.map_some]; done)); exact rfl; simp only [pM, pN, rR, rP]) | (apply U4 (v := .vslice (R.map AV.str)); (focus (simp only [go_sem, *, Nat.reduceLT, Int.reduceEq, Int.reduceBEq, Int.reduceLE, Int.reduceLT, Nat.reduceAdd, Nat.reduceBEq, Nat.reduceEqDiff, reduceIte, Nat.reduceLeDiff, Nat.reduceMul, Nat.reduceSub, reduceCtorEq, Option.map_none, Option.map_some]; done)); exact rfl; simp only [pM, pN, rR, rP]) | refine go1 ?_ | (apply U6; exact Z1; exact Z1; (focus (simp only [List.nil_append, List.append_nil]; first | exact hclc | exact hclw)); simp only [pM, pN, rR, rP]) | refine go2 (fun hh => ?_) (fun hh => ?_) | fail)
      clear hclc hclw x0 x1 x2 x3 y0 y1 y2 y3 hcut3 hcut4 iT0 iT1 wc i0 i1 hd
      refine W.loopN b (fun k F => ∃ e lm hp v g rc, F = Fr.mk 142 false e lm hp [] none ∧ mapO (fun l => numsW l wRead 4) (R.take k) = some rc ∧ rc.length = k ∧ BltN h.next hp u 2 ((acc.map ptOf).map ptC.enc) ∧ BltN h.next hp v 4 ((rc.map rdOf).map rdgC.enc) ∧ (h.next ≤ hp.next ∧ ∀ id, id < h.next → hp.get id = h.get id) ∧
       lm.get 2 = some (0, [.nilslice, .int .i64 0, .int .i64 0, .int .i64 0, .int .i64 0, .int .i64 0, .int .i64 0, .int .i64 0, .int .i64 0, .nilslice]) ∧ lm.get 5 = some (g, [u, .int .i64 c0, .int .i64 c1, .int .i64 c2, .int .i64 c3, .int .i64 w0, .int .i64 w1, .int .i64 w2, .int .i64 w3, v]) ∧ e.get 2 = some (.lptr 2 0 0) ∧ e.get 5 = some (.lptr 5 g 0) ∧ e.get 0 = some (.str s) ∧ e.get 121 = some (.vslice (R.map AV.str)) ∧ e.get 122 = some (.int .i64 ↑b) ∧ e.get 123 = some (.int .i64 ↑k) ∧ k ≤ b) ?_ ?_
      ·refine ⟨_, _, _, .nilslice, g, [], rfl, HREMP.out, rfl, HBU.out, BltN.nil, hX, ?_, ?_, ?_, ?_, ?_, ?_, ?_, ?_, Nat.zero_le _⟩
       all_goals first | exact Z2 | simp [go_sem, *]
      clear g2 g5 h2 h5 h0 h3 h4 h50 h51 h52 hX HBU
      rintro k F ⟨e, lm, hp, v, g, rc, rfl, hmr, hrl, hB1, hB2, hX, g2, g5, h2, h5, h0, h121, h122, h123, hk⟩
      have hbo := hB1.blt.out
      have hbc := hB1.blt.cells
      have hbt := hB1.blt.tup
      have hbo2 := hB2.blt.out
      have hbc2 := hB2.blt.cells
      have hbt2 := hB2.blt.tup
      simp only [AV.cells] at hbc hbc2
      simp only [isTuple] at hbt hbt2
      have HMR2 := Lib.hid hmr
      have HRL2 := Lib.hid hrl
      clear hmr hrl
      by_cases hlt : k < b
      ·obtain ⟨p, hp'⟩ := get_some (show k < R.length by rw [HRL.out]; exact hlt)
       have hix := fun H => strs_idx HR.out hp' H
       have hd : decide ((k : Int) < (b : Int)) = true := by simpa using hlt
       have hw := wrap_succ hlt (by have := HRL.out; unfold maxL; omega)
       have hC1 := C184 c hc9 hc0 hc1 hc2 hc3 hc4 p wRead 4 hp (HMR.out p (List.mem_of_getElem? hp')) (by omega)
       unfold ClR numsR at hC1
       obtain ⟨r1, hcl, hq1, hqx1, hr1⟩ := hC1
       have hcl : Cl (dX c) 184 [.str p, .str [114, 101, 97, 100, 105, 110, 103], .int .i64 4] hp r1 := hcl
       have HP := Lib.hid hp'
       have HLT := Lib.hid hlt
       clear hp' hlt
       cases hnw : numsW p wRead 4 with
       | none =>
        rw [hnw] at hr1
        obtain ⟨u1, rfl⟩ := hr1
        have hnn : readM s = none := by
         rw [HYES.out, bodyL_4 HMO.out HC.out HW.out (mapO_none (List.mem_of_getElem? HP.out) hnw)]
        have HNN := Lib.hid hnn
        have hx2 : HExt h hq1 := HExt.trans hX hqx1
        have HX2 := Lib.hid hx2
        clear hnw hnn hx2 hqx1 hX hB1 hB2
        repeat' (first | (simp only [tP, bP, eP, true_and]) | refine go1 ?_ | (apply U6; exact Z1; exact Z1; (focus (simp only [List.nil_append, List.append_nil]; first | exact hcl)); simp only [pM, pN, rR, rP]) | refine go2 (fun hh => ?_) (fun hh => ?_) | fail)
        exact readR_pan HX2.out HNN.out
       | some n =>
        rw [hnw] at hr1
        obtain ⟨n1, _⟩ := nums_is hnw
        have hnx := mapO_next (f := fun l => numsW l wRead 4) HP.out HMR2.out hnw
        obtain ⟨x, y, z, t, rfl⟩ : ∃ x y z t, n = [x, y, z, t] := by
         match n, n1 with
         | [x, y, z, t], _ => exact ⟨x, y, z, t, rfl⟩
        simp only at hr1
        subst hr1
        have hcl : Cl (dX c) 184 [.str p, .str [114, 101, 97, 100, 105, 110, 103], .int .i64 4] hp (.ret (.vslice [.int .i64 x, .int .i64 y, .int .i64 z, .int .i64 t]) hq1 none) := hcl
        have j0 := fun H => (idx4 x y z t H).1
        have j1 := fun H => (idx4 x y z t H).2.1
        have j2 := fun H => (idx4 x y z t H).2.2.1
        have j3 := fun H => (idx4 x y z t H).2.2.2
        have HNX := Lib.hid hnx
        replace hB1 := hB1.keep hqx1
        replace hB2 := hB2.keep hqx1
        replace hX : h.next ≤ hq1.next ∧ ∀ id, id < h.next → hq1.get id = h.get id := HExt.trans hX hqx1
        have hll : ((rc.map rdOf).map rdgC.enc).length + 1 ≤ most := by simp only [List.length_map]; have := HRL2.out; have := HLT.out; unfold most; omega
        clear hnx hnw hqx1 n1
        generalize hEq : (rc.map rdOf).map rdgC.enc = ps at *
        have HEQ := Lib.hid hEq
        have HB1 := Lib.hid hB1
        clear hEq hB1
        repeat' (first | (apply W.drawQ (id := 21) (l1 := [0, 1, 2, 3, 4, 5, 6, 7, 8, 9, 10, 11, 12, 13, 14, 15]) (l2 := [16, 17, 18]); kernel_rfl; kernel_rfl; kernel_rfl; exact Z4) | (apply WO1.appendM (t := 49) (u := 49) (e := 95) (e' := 95) (sz := 4) (tl := []) (b := h.next) (h0 := h) (hb := hB2) (hx := hX); exact Z1; exact rfl; exact Z2; exact Z2; exact Z2; (focus (exact ty_row49)); exact Z1; (focus (intro v hv; simp at hv; subst hv; rfl)); (focus (simp only [List.length_cons, List.length_nil]; exact hll)); (focus (simp)); (intro v' h' hB' ho' hK' hX'; have hcc' := hB'.blt.cells; have htt' := hB'.blt.tup; simp only [AV.cells] at hcc'; simp only [isTuple] at htt'; simp only [pM, pN])) | refine go1 ?_ | (apply U6; exact Z1; exact Z1; (focus (simp only [List.nil_append, List.append_nil]; first | exact hcl)); simp only [pM, pN, rR, rP]) | refine go2 (fun hh => ?_) (fun hh => ?_) | fail)
        refine ⟨HLT.out, _, _, _, v', g, rc ++ [[x, y, z, t]], rfl, HNX.out, by have := HRL2.out; simp [this], HB1.out.other hB2.blt (by decide) hK', ?_, hX', ?_, ?_, ?_, ?_, ?_, ?_, ?_, ?_, HLT.out⟩
        ·rw [List.map_append, List.map_append, HEQ.out]
         exact hB'
        all_goals exact Z2
      ·have hd : decide ((k : Int) < (b : Int)) = false := by simpa using hlt
       have hkl : R.take k = R := List.take_of_length_le (by rw [HRL.out]; omega)
       have hmr := HMR2.out
       rw [hkl] at hmr
       have hyes := HYES.out
       have hbl := bodyL_5 HMO.out HC.out HW.out hmr
       rw [hbl] at hyes
       simp only at hyes
       have hbs := bodyL_small hbl
       obtain ⟨z1, z2, hf1, hf2, hzn, hzg⟩ := frz_two hB1 hB2 (by decide)
       have hok : okM (mkM acc [c0, c1, c2, c3] [w0, w1, w2, w3] rc) = true := by
        unfold okM
        rw [hbs, Bool.true_and, decide_eq_true_eq]
        have := HRL2.out
        simp only [mkM, List.length_map]
        omega
       have hmv : mcV (mkM acc [c0, c1, c2, c3] [w0, w1, w2, w3] rc) = .agg [slN ((acc.map ptOf).map ptC.enc), .int .i64 c0, .int .i64 c1, .int .i64 c2, .int .i64 c3, .int .i64 w0, .int .i64 w1, .int .i64 w2, .int .i64 w3, slN ((rc.map rdOf).map rdgC.enc)] := rfl
       have k140 := K140r (X := dX c) hc5 (m := mkM acc [c0, c1, c2, c3] [w0, w1, w2, w3] rc) hB1 hB2 hok
       have k140 : Cl (dX c) 140 [.agg [u, .int .i64 c0, .int .i64 c1, .int .i64 c2, .int .i64 c3, .int .i64 w0, .int .i64 w1, .int .i64 w2, .int .i64 w3, v]] hp (.ret (.str (textM (mkM acc [c0, c1, c2, c3] [w0, w1, w2, w3] rc))) hp none) := k140
       have hx2 : HExt h z2 := ⟨Nat.le_trans hX.1 hzn, fun id hid => (hzg id hid).trans (hX.2 id hid)⟩
       have HX1 := Lib.hid hX
       have HX2 := Lib.hid hx2
       have HMV := Lib.hid hmv
       have HYES := Lib.hid hyes
       clear hyes hbl hbs hmr hkl hlt hk hok hmv hx2 hX hzn hzg hB1 hB2
       generalize (acc.map ptOf).map ptC.enc = ps at *
       generalize (rc.map rdOf).map rdgC.enc = rs at *
       generalize mkM acc [c0, c1, c2, c3] [w0, w1, w2, w3] rc = m at *
       by_cases htx : textM m = s
       ·have hq : (textM m == s) = true := by rw [htx]; exact beq_self_eq_true s
        have hrd : readM s = some m := by rw [HYES.out, if_pos htx]
        have HRD := Lib.hid hrd
        have k185 := fun h => C185 c hc1 true s h
        simp only [sureC, if_true] at k185
        clear hrd htx
        repeat' (first | refine goS ?_ | (apply U6; exact Z1; exact Z1; (focus (simp only [List.nil_append, List.append_nil]; first | exact k140 | exact k185 _)); simp only [pM, pN, rR, rP]) | refine go2 (fun hh => ?_) (fun hh => ?_) | fail)
        all_goals (simp only [resV_def (X := dX c) Tryz.func142, Tryz.results142]; first | exact J5 | refine J6 ?_)
        rw [← HMV.out]
        exact readR_ret HX2.out HRD.out
       ·have hq : (textM m == s) = false := by simpa using htx
        have hrd : readM s = none := by rw [HYES.out, if_neg htx]
        have HRD := Lib.hid hrd
        have k185 := fun h => C185 c hc1 false s h
        simp only [sureC, Bool.false_eq_true, if_false] at k185
        clear hrd htx
        repeat' (first | (simp only [tP, bP, eP, true_and]) | refine go1 ?_ | (apply U6; exact Z1; exact Z1; (focus (simp only [List.nil_append, List.append_nil]; first | exact k140 | exact k185 _)); simp only [pM, pN, rR, rP]) | refine go2 (fun hh => ?_) (fun hh => ?_) | fail)
        exact readR_pan HX1.out HRD.out
  ·have hok : hdOk (l0 :: L0) [A, B] = false := by simpa using hok
   have hnn := HNO.out hok
   unfold hdOk at hok
   simp only [List.getD_cons_zero, List.getD_cons_succ] at hok
   have k185 := fun h => C185 c hc1 false s h
   simp only [sureC, Bool.false_eq_true, if_false] at k185
   have hcase : (decide (A ≥ 0) = false) ∨ (decide (A ≥ 0) = true ∧ decide (B ≥ 0) = false) ∨ (decide (A ≥ 0) = true ∧ decide (B ≥ 0) = true ∧ (((l0 :: L0).length : Int) == A + B + 5) = false) := by
    rw [Bool.and_eq_false_iff, Bool.and_eq_false_iff] at hok
    simp only [decide_eq_false_iff_not, decide_eq_true_eq, beq_eq_false_iff_ne] at hok ⊢
    omega
   have HNN := Lib.hid hnn
   generalize (l0 :: L0).length = LN at *
   clear hok hnn HNO HYES hLL
   rcases hcase with c1 | ⟨c1, c2⟩ | ⟨c1, c2, c3⟩
   all_goals (
    refine ClR.walk (c := _) hc Tryz.func142 rfl (by kernel_rfl) rfl readR_fail ?_
    simp only [entryEnv, Nat.reduceAdd]
    repeat' (first | (apply W.drawP (id := 3) (i := 24) (l1 := [0, 1, 2, 3, 4, 5, 6, 7, 8, 9, 10, 11, 12, 13, 14, 15, 16, 17, 18, 19, 20, 21, 22, 23]) (l2 := []); kernel_rfl; kernel_rfl; kernel_rfl; exact rfl; exact rfl; exact Z4) | (simp only [junkAll, pM, pN, tP, bP, eP, true_and]) | (simp only [tP, bP, eP, true_and]) | refine go1 ?_ | (apply U6; exact Z1; exact Z1; (focus (simp only [List.nil_append, List.append_nil]; first | exact k183 _ | exact hcl | exact k185 _)); simp only [pM, pN, rR, rP]) | refine go2 (fun hh => ?_) (fun hh => ?_) | fail)
    exact readR_pan HQX.out HNN.out)
end Go.AM
namespace Go.AM
open Go Go.Proofs
variable [Keep]
attribute [local irreducible] W WO WO1 WD WQ WT thenQ blockQ endR isRet retK Cl ClR
attribute [local irreducible] DefR textM readM machB
def Mc.mach (m : Mc) : Bool := machB m.st m.cx m.cy m.wx m.wy m.rs
theorem Mc.mach_ok {m : Mc} (h : m.mach = true) : smallM m = true ∧ m.st.length ≤ 4 ∧ m.rs.length ≤ 4 := mc_small h
theorem Mc.mach_okM {m : Mc} (h : m.mach = true) : okM m = true := by
 obtain ⟨h1, h2, h3⟩ := m.mach_ok h
 unfold okM
 rw [h1, Bool.true_and, decide_eq_true_eq]
 omega
def prV (m : Mc) : AV := if m.mach then .tuple [.str (textM m), .int .i64 0] else .tuple [.str [], .int .i64 2]
def mcOf : AV → Option Mc
 | .agg [sa, .int .i64 cxl, .int .i64 cxh, .int .i64 cyl, .int .i64 cyh, .int .i64 wxl, .int .i64 wxh, .int .i64 wyl, .int .i64 wyh, ra] => match slV ptC sa, slV rdgC ra with
  | some st, some rs => some ⟨st, ⟨cxl, cxh⟩, ⟨cyl, cyh⟩, ⟨wxl, wxh⟩, ⟨wyl, wyh⟩, rs⟩
  | _, _ => none
 | _ => none
theorem mcOf_is {v : AV} {m : Mc} (h : mcOf v = some m) : ∃ sa ra, v = mcA sa ra m ∧ slV ptC sa = some m.st ∧ slV rdgC ra = some m.rs := by
 unfold mcOf at h
 split at h
 ·split at h
  ·rename_i h1 h2
   cases h
   exact ⟨_, _, rfl, h1, h2⟩
  ·cases h
 ·cases h
theorem mcA_of {sa ra : AV} {m : Mc} (h1 : slV ptC sa = some m.st) (h2 : slV rdgC ra = some m.rs) : mcOf (mcA sa ra m) = some m := by
 unfold mcOf mcA
 simp only [h1, h2]
def sp82 : List AV → Option AV
 | [v] => (mcOf v).map prV
 | _ => none
theorem p82 : ∀ args v, sp82 args = some v → v.pur = true := by
 intro args v h
 unfold sp82 at h
 split at h
 ·rw [Option.map_eq_some_iff] at h
  obtain ⟨m, _, rfl⟩ := h
  unfold prV
  split <;> rfl
 ·cases h
noncomputable def cXP : Itr
 | 101 => some (flatFn sp101)
 | 140 => some (flatFnD sp140)
 | 181 => some (atOnce spItoa)
 | 183 => some (atOnce spSplit)
 | 210 => some (pureFn sp221)
 | _ => none
theorem cXP_sound (hT : TabK Tryz.prog) : Sound (dX cXP) := dX_sound (fun f g h => by
 unfold cXP at h
 split at h
 ·cases h; exact F101
 ·cases h; exact F140 hT
 ·cases h; exact F181 hT
 ·cases h; exact F183
 ·cases h; exact F210
 ·cases h)
theorem K101m {X : Ctx} (hX : X.intr 101 = some (flatFn sp101)) {sa ra : AV} {m : Mc} (hl : slV ptC sa = some m.st) (hr : slV rdgC ra = some m.rs) (h : Heap) : Cl X 101 [mcA sa ra m] h (.ret (.bool m.mach) h none) :=
 K101 hX sa ra m.st m.rs m.cx m.cy m.wx m.wy hl hr h
set_option maxHeartbeats 2000000 in
theorem F82 (hT : TabK Tryz.prog) : IntrFn Tryz.prog 82 (pureFn sp82) := by
 refine pure_fn (X := dX cXP) (cXP_sound hT) p82 ?_
 intro args v h
 unfold sp82 at h
 split at h
 ·rename_i v0
  rw [Option.map_eq_some_iff] at h
  obtain ⟨m, hm, rfl⟩ := h
  obtain ⟨sa, ra, rfl, hl, hr⟩ := mcOf_is hm
  have o1 := sl_out hl
  have o2 := sl_out hr
  obtain ⟨n1, t1⟩ := sl_one hl
  obtain ⟨n2, t2⟩ := sl_one hr
  have k101 := fun h => K101m (X := dX cXP) rfl hl hr h
  unfold mcA at k101 ⊢
  cases hb : m.mach with
  | true =>
   have k140 := fun h => K140 (X := dX cXP) rfl (SeeV.of hl h) (SeeV.of hr h) (m.mach_okM hb)
   have hv : prV m = .tuple [.str (textM m), .int .i64 0] := by unfold prV; rw [hb]; rfl
   rw [hv]
   rw [hb] at k101
   clear hm hl hr hv hb
   generalize textM m = tx at *
   refine ClR.walk (c := _) rfl Tryz.func82 rfl (by kernel_rfl) rfl isRet_fail ?_
   simp only [entryEnv, Nat.reduceAdd, emptyHp]
   repeat' (first | refine goS ?_ | (apply U6; exact Z1; exact Z1; (focus (simp only [List.nil_append, List.append_nil]; first | exact k101 _ | exact k140 _)); simp only [pM, pN, rR, rP]) | refine go2 (fun hh => ?_) (fun hh => ?_) | fail)
   all_goals (simp only [resV_def (X := dX cXP) Tryz.func82, Tryz.results82]; first | exact J5 | refine J6 ?_)
  | false =>
   have hv : prV m = .tuple [.str [], .int .i64 2] := by unfold prV; rw [hb]; rfl
   rw [hv]
   rw [hb] at k101
   clear hm hl hr hv hb
   refine ClR.walk (c := _) rfl Tryz.func82 rfl (by kernel_rfl) rfl isRet_fail ?_
   simp only [entryEnv, Nat.reduceAdd, emptyHp]
   repeat' (first | refine goS ?_ | (apply U6; exact Z1; exact Z1; (focus (simp only [List.nil_append, List.append_nil]; first | exact k101 _)); simp only [pM, pN, rR, rP]) | refine go2 (fun hh => ?_) (fun hh => ?_) | fail)
   all_goals (simp only [resV_def (X := dX cXP) Tryz.func82, Tryz.results82]; first | exact J5 | refine J6 ?_)
 ·cases h
theorem mcA_pur {sa ra : AV} {m : Mc} (h1 : slV ptC sa = some m.st) (h2 : slV rdgC ra = some m.rs) : (mcA sa ra m).pur = true := by simp [mcA, AV.pur, AV.purL, sl_pur h1, sl_pur h2]
theorem K82 {X : Ctx} (hX : X.intr 82 = some (pureFn sp82)) {sa ra : AV} {m : Mc} (hl : slV ptC sa = some m.st) (hr : slV rdgC ra = some m.rs) (h : Heap) : Cl X 82 [mcA sa ra m] h (.ret (prV m) h none) :=
 Cl.intr hX (by simp only [pureFn, AV.purL, mcA_pur hl hr, Bool.and_self, if_true, sp82, mcA_of hl hr, Option.map_some])
def zeroM : AV := .agg [.nilslice, .int .i64 0, .int .i64 0, .int .i64 0, .int .i64 0, .int .i64 0, .int .i64 0, .int .i64 0, .int .i64 0, .nilslice]
noncomputable def rdV83 (s : List UInt8) : AV :=
 if 300 < s.length then .tuple [zeroM, .int .i64 3] else match readM s with
  | none => .tuple [zeroM, .int .i64 4]
  | some m => if m.mach then .tuple [mcV m, .int .i64 0] else .tuple [zeroM, .int .i64 2]
noncomputable def sp83 : List AV → Option AV
 | [.str s] => if decide (s.length ≤ 400) = true then some (rdV83 s) else none
 | _ => none
theorem mcV_pur (m : Mc) : (mcV m).pur = true := by
 have h1 : ∀ {α : Type} (c : Cd α) (l : List α), (slN (l.map c.enc)).pur = true := fun c l => by
  cases l with
  | nil => rfl
  | cons a r =>
   show AV.purL _ = true
   rw [purL_mem]
   intro x hx
   obtain ⟨y, _, rfl⟩ := List.mem_map.1 hx
   exact c.pur y
 simp [mcV, AV.pur, AV.purL, h1]
theorem p83 : ∀ args v, sp83 args = some v → v.pur = true := by
 intro args v h
 unfold sp83 at h
 split at h
 ·split at h
  ·cases h
   unfold rdV83
   split
   ·rfl
   ·split
    ·rfl
    ·split
     ·simp [AV.pur, AV.purL, mcV_pur]
     ·rfl
  ·cases h
 ·cases h
theorem D141n (c : Itr) (n : Nat) (m : Mp Blk) (Q : Heap → Option AV → Prop) (q : Q ⟨n, m⟩ none) : DefR (dX c) [(.func (.func 141) [] [.ptr 0 0, .ptr 1 0], [])] ⟨n, m⟩ none Q := by
 have q := Lib.hid q
 have hq1 := eql_nn
 have hq2 := eql_in
 refine DefR.cons (g := 141) (X := dX c) Tryz.func141 (by kernel_rfl) rfl (by kernel_rfl) rfl ?_
 simp only [entryEnv, Nat.reduceAdd, List.nil_append, List.append_nil, Option.map_none]
 repeat' (first | (apply U5; exact rfl; (focus (intro cl rd; simp only [go_sem, *, Nat.reduceLT, Int.reduceEq, Int.reduceBEq, Int.reduceLE, Int.reduceLT, Nat.reduceAdd, Nat.reduceBEq, Nat.reduceEqDiff, reduceIte, Nat.reduceLeDiff, Nat.reduceMul, Nat.reduceSub, reduceCtorEq, efV, Fr.callOp, Fr.builtinE, Fr.recoverE, reduceIte, Bool.false_eq_true]; with_reducible rfl)); simp only [pM, pN]) | (simp only [endDef_norm]) | refine go1 ?_ | refine go2 (fun hh => ?_) (fun hh => ?_) | fail)
 refine DefR.nil ?_
 exact q.out
theorem D141p (c : Itr) (n : Nat) (m : Mp Blk) (u : List UInt8) (Q : Heap → Option AV → Prop) (hg : m.get 0 = some (.var [.nilslice, .int .i64 0, .int .i64 0, .int .i64 0, .int .i64 0, .int .i64 0, .int .i64 0, .int .i64 0, .int .i64 0, .nilslice])) (hg1 : m.get 1 = some (.var [.int .i64 0]))
  (q : ∀ m', m'.get 0 = some (.var [.nilslice, .int .i64 0, .int .i64 0, .int .i64 0, .int .i64 0, .int .i64 0, .int .i64 0, .int .i64 0, .int .i64 0, .nilslice]) → m'.get 1 = some (.var [.int .i64 4]) → Q ⟨n, m'⟩ none) :
  DefR (dX c) [(.func (.func 141) [] [.ptr 0 0, .ptr 1 0], [])] ⟨n, m⟩ (some (.iface 205 (.agg [.str u]))) Q := by
 have q := Lib.hid q
 have hq1 := eql_nn
 have hq2 := eql_in
 refine DefR.cons (g := 141) (X := dX c) Tryz.func141 (by kernel_rfl) rfl (by kernel_rfl) rfl ?_
 simp only [entryEnv, Nat.reduceAdd, List.nil_append, List.append_nil, Option.map_some]
 repeat' (first | (apply U5; exact rfl; (focus (intro cl rd; simp only [go_sem, *, Nat.reduceLT, Int.reduceEq, Int.reduceBEq, Int.reduceLE, Int.reduceLT, Nat.reduceAdd, Nat.reduceBEq, Nat.reduceEqDiff, reduceIte, Nat.reduceLeDiff, Nat.reduceMul, Nat.reduceSub, reduceCtorEq, efV, Fr.callOp, Fr.builtinE, Fr.recoverE, reduceIte, Bool.false_eq_true]; with_reducible rfl)); simp only [pM, pN]) | (simp only [endDef_norm]) | refine go1 ?_ | refine go2 (fun hh => ?_) (fun hh => ?_) | fail)
 refine DefR.nil ?_
 refine q.out _ ?_ ?_
 ·simp only [go_sem, *, Nat.reduceLT, Int.reduceEq, Int.reduceBEq, Int.reduceLE, Int.reduceLT, Nat.reduceAdd, Nat.reduceBEq, Nat.reduceEqDiff, reduceIte, Nat.reduceLeDiff, Nat.reduceMul, Nat.reduceSub, reduceCtorEq]
 ·simp only [go_sem, *, Nat.reduceLT, Int.reduceEq, Int.reduceBEq, Int.reduceLE, Int.reduceLT, Nat.reduceAdd, Nat.reduceBEq, Nat.reduceEqDiff, reduceIte, Nat.reduceLeDiff, Nat.reduceMul, Nat.reduceSub, reduceCtorEq]
end Go.AM
namespace Go.AM
open Go Go.Proofs
variable [Keep]
attribute [local irreducible] W WO WO1 WD WQ WT thenQ blockQ endR isRet retK Cl ClR
attribute [local irreducible] DefR textM readM machB readR
theorem slN_parts {α : Type} (c : Cd α) (l : List α) : (∀ H, frz1 H (slN (l.map c.enc)) = some (slN (l.map c.enc), H)) ∧ outV (some (slN (l.map c.enc))) = some (slN (l.map c.enc)) ∧ (slN (l.map c.enc)).one = true ∧ isTuple (slN (l.map c.enc)) = false ∧ (slN (l.map c.enc)).cells = [slN (l.map c.enc)] := by
 cases l with
 | nil => exact ⟨fun _ => rfl, rfl, rfl, rfl, rfl⟩
 | cons a r => exact ⟨fun _ => rfl, rfl, rfl, rfl, rfl⟩
theorem rd_long {s : List UInt8} (h : 300 < s.length) : rdV83 s = .tuple [zeroM, .int .i64 3] := by unfold rdV83; rw [if_pos h]
theorem rd_none {s : List UInt8} (h : ¬ 300 < s.length) (k : readM s = none) : rdV83 s = .tuple [zeroM, .int .i64 4] := by unfold rdV83; rw [if_neg h, k]
theorem rd_some {s : List UInt8} {m : Mc} (h : ¬ 300 < s.length) (k : readM s = some m) (q : m.mach = true) : rdV83 s = .tuple [mcV m, .int .i64 0] := by unfold rdV83; rw [if_neg h, k]; simp only [q, if_true]
theorem rd_bad {s : List UInt8} {m : Mc} (h : ¬ 300 < s.length) (k : readM s = some m) (q : m.mach = false) : rdV83 s = .tuple [zeroM, .int .i64 2] := by unfold rdV83; rw [if_neg h, k]; simp only [q, Bool.false_eq_true, if_false]
set_option maxHeartbeats 4000000 in
theorem F83 (hT : TabK Tryz.prog) : IntrFn Tryz.prog 83 (pureFn sp83) := by
 refine pure_fn (X := dX cXP) (cXP_sound hT) p83 ?_
 intro args v h
 unfold sp83 at h
 split at h
 ·rename_i s
  split at h
  ·rename_i hs
   have h := Option.some.inj h
   subst h
   have hs : s.length ≤ 400 := by simpa using hs
   by_cases hlong : 300 < s.length
   ·have hd : decide ((s.length : Int) > 300) = true := by simp only [decide_eq_true_eq]; omega
    rw [rd_long hlong]
    unfold zeroM
    clear hlong hs
    refine ClR.walkD (c := _) rfl Tryz.func83 rfl (by kernel_rfl) rfl ?_
    simp only [entryEnv, Nat.reduceAdd, emptyHp]
    repeat' (first | (refine Y7 ?_; simp only [endD_ret]) | refine go1 ?_ | refine go2 (fun hh => ?_) (fun hh => ?_) | fail)
    refine DefR.nil ?_
    refine afterD_none.2 ?_
    (simp only [resV_def (X := dX cXP) Tryz.func83, Tryz.results83]; first | exact J5 | refine J6 ?_)
   ·have hd : decide ((s.length : Int) > 300) = false := by simp only [decide_eq_false_iff_not]; omega
    have hC : ∀ hn hm, ∃ r, Cl (dX cXP) 142 [.str s] ⟨hn, hm⟩ r ∧ ∃ zn zm, HExt ⟨hn, hm⟩ ⟨zn, zm⟩ ∧ match readM s with | some m => r = .ret (mcV m) ⟨zn, zm⟩ none | none => ∃ u, r = .pan (.iface 205 (.agg [.str u])) ⟨zn, zm⟩ none := by
     intro hn hm
     have := C142 cXP rfl rfl rfl rfl rfl rfl rfl rfl s ⟨hn, hm⟩ hs
     unfold ClR readR at this
     obtain ⟨r, h1, ⟨zn, zm⟩, h2, h3⟩ := this
     exact ⟨r, h1, zn, zm, h2, h3⟩
    cases hrd : readM s with
    | none =>
     rw [rd_none hlong hrd]
     unfold zeroM
     obtain ⟨r, hcl, zn, zm, hx, hr⟩ := hC 2 (((Mp.nil : Mp Blk).set 0 (.var [.nilslice, .int .i64 0, .int .i64 0, .int .i64 0, .int .i64 0, .int .i64 0, .int .i64 0, .int .i64 0, .int .i64 0, .nilslice])).set 1 (.var [.int .i64 0]))
     rw [hrd] at hr
     obtain ⟨u, rfl⟩ := hr
     have g0 : zm.get 0 = some (.var [.nilslice, .int .i64 0, .int .i64 0, .int .i64 0, .int .i64 0, .int .i64 0, .int .i64 0, .int .i64 0, .int .i64 0, .nilslice]) := hx.2 0 (by simp)
     have g1 : zm.get 1 = some (.var [.int .i64 0]) := hx.2 1 (by simp)
     have HX := Lib.hid hx
     clear hC hrd hlong hs hx
     refine ClR.walkD (c := _) rfl Tryz.func83 rfl (by kernel_rfl) rfl ?_
     simp only [entryEnv, Nat.reduceAdd, emptyHp]
     repeat' (first | (apply U5; exact rfl; (focus (intro cl rd; simp only [go_sem, *, Nat.reduceLT, Int.reduceEq, Int.reduceBEq, Int.reduceLE, Int.reduceLT, Nat.reduceAdd, Nat.reduceBEq, Nat.reduceEqDiff, reduceIte, Nat.reduceLeDiff, Nat.reduceMul, Nat.reduceSub, reduceCtorEq, efV, Fr.deferE]; with_reducible rfl)); simp only [pM, pN]) | (simp only [endD_pan]) | refine go1 ?_ | (apply U6; exact Z1; exact Z1; (focus (simp only [List.nil_append, List.append_nil]; first | exact hcl)); simp only [pM, pN, rR, rP]) | refine go2 (fun hh => ?_) (fun hh => ?_) | fail)
     refine D141p cXP zn zm u _ g0 g1 fun m' q1 q2 => afterD_none.2 ?_
     (simp only [resV_def (X := dX cXP) Tryz.func83, Tryz.results83]; first | exact J5 | refine J6 ?_)
    | some m =>
     obtain ⟨r, hcl, zn, zm, hx, hr⟩ := hC 2 (((Mp.nil : Mp Blk).set 0 (.var [.nilslice, .int .i64 0, .int .i64 0, .int .i64 0, .int .i64 0, .int .i64 0, .int .i64 0, .int .i64 0, .int .i64 0, .nilslice])).set 1 (.var [.int .i64 0]))
     rw [hrd] at hr
     subst hr
     obtain ⟨_, _, hml⟩ := readM_is hrd
     obtain ⟨f1, o1, n1, t1, c1⟩ := slN_parts ptC m.st
     obtain ⟨f2, o2, n2, t2, c2⟩ := slN_parts rdgC m.rs
     have hl := slN_sl ptC m.st (by have := hml.1; unfold maxL; omega)
     have hr := slN_sl rdgC m.rs (by have := hml.2; unfold maxL; omega)
     have k101 := fun h => K101m (X := dX cXP) rfl hl hr h
     have g0 : zm.get 0 = some (.var [.nilslice, .int .i64 0, .int .i64 0, .int .i64 0, .int .i64 0, .int .i64 0, .int .i64 0, .int .i64 0, .int .i64 0, .nilslice]) := hx.2 0 (by simp)
     have g1 : zm.get 1 = some (.var [.int .i64 0]) := hx.2 1 (by simp)
     have HX := Lib.hid hx
     unfold mcA at k101
     unfold mcV at hcl
     cases hb : m.mach with
     | true =>
      rw [rd_some hlong hrd hb]
      unfold mcV
      rw [hb] at k101
      clear hC hrd hlong hs hx hl hr hml hb
      generalize slN (m.st.map ptC.enc) = sa at *
      generalize slN (m.rs.map rdgC.enc) = ra at *
      refine ClR.walkD (c := _) rfl Tryz.func83 rfl (by kernel_rfl) rfl ?_
      simp only [entryEnv, Nat.reduceAdd, emptyHp]
      repeat' (first | (apply U5; exact rfl; (focus (intro cl rd; simp only [go_sem, *, Nat.reduceLT, Int.reduceEq, Int.reduceBEq, Int.reduceLE, Int.reduceLT, Nat.reduceAdd, Nat.reduceBEq, Nat.reduceEqDiff, reduceIte, Nat.reduceLeDiff, Nat.reduceMul, Nat.reduceSub, reduceCtorEq, efV, Fr.deferE]; with_reducible rfl)); simp only [pM, pN]) | (refine Y7 ?_; simp only [endD_ret]) | refine go1 ?_ | (apply U6; exact Z1; exact Z1; (focus (simp only [List.nil_append, List.append_nil]; first | exact hcl | exact k101 _)); simp only [pM, pN, rR, rP]) | refine go2 (fun hh => ?_) (fun hh => ?_) | fail)
      refine D141n cXP _ _ _ ?_
      refine afterD_none.2 ?_
      (simp only [resV_def (X := dX cXP) Tryz.func83, Tryz.results83]; first | exact J5 | refine J6 ?_)
     | false =>
      rw [rd_bad hlong hrd hb]
      unfold zeroM
      rw [hb] at k101
      clear hC hrd hlong hs hx hl hr hml hb
      generalize slN (m.st.map ptC.enc) = sa at *
      generalize slN (m.rs.map rdgC.enc) = ra at *
      refine ClR.walkD (c := _) rfl Tryz.func83 rfl (by kernel_rfl) rfl ?_
      simp only [entryEnv, Nat.reduceAdd, emptyHp]
      repeat' (first | (apply U5; exact rfl; (focus (intro cl rd; simp only [go_sem, *, Nat.reduceLT, Int.reduceEq, Int.reduceBEq, Int.reduceLE, Int.reduceLT, Nat.reduceAdd, Nat.reduceBEq, Nat.reduceEqDiff, reduceIte, Nat.reduceLeDiff, Nat.reduceMul, Nat.reduceSub, reduceCtorEq, efV, Fr.deferE]; with_reducible rfl)); simp only [pM, pN]) | (refine Y7 ?_; simp only [endD_ret]) | refine go1 ?_ | (apply U6; exact Z1; exact Z1; (focus (simp only [List.nil_append, List.append_nil]; first | exact hcl | exact k101 _)); simp only [pM, pN, rR, rP]) | refine go2 (fun hh => ?_) (fun hh => ?_) | fail)
      refine D141n cXP _ _ _ ?_
      refine afterD_none.2 ?_
      (simp only [resV_def (X := dX cXP) Tryz.func83, Tryz.results83]; first | exact J5 | refine J6 ?_)
  ·cases h
 ·cases h
theorem K83 {X : Ctx} (hX : X.intr 83 = some (pureFn sp83)) (s : List UInt8) (hs : s.length ≤ 400) (h : Heap) : Cl X 83 [.str s] h (.ret (rdV83 s) h none) :=
 Cl.intr hX (by simp [pureFn, AV.pur, AV.purL, sp83, hs])
end Go.AM
namespace Go.AM
open Go Go.Proofs
variable [Keep]
attribute [local irreducible] W WO WO1 WD WQ WT thenQ blockQ endR isRet retK Cl ClR
theorem fold_next {S : List (List UInt8)} {k : Nat} {l : List UInt8} {m m' : Mc} (h : S[k]? = some l) (hm : fldR m0 (S.take k) = some m) (hs : stpR m l = some m') : fldR m0 (S.take (k + 1)) = some m' := by
 rw [take_next h, fldR_app, hm]
 simp only [fldR, hs]
theorem fold_stop {S : List (List UInt8)} {k : Nat} {l : List UInt8} {m : Mc} (h : S[k]? = some l) (hm : fldR m0 (S.take k) = some m) (hs : stpR m l = none) : fldR m0 S = none := by
 obtain ⟨h1, h2⟩ := List.getElem?_eq_some_iff.1 h
 have e : S = S.take k ++ l :: S.drop (k + 1) := by
  rw [← h2, ← List.drop_eq_getElem_cons h1, List.take_append_drop]
 rw [e, fldR_app, hm]
 simp only [fldR, hs]
theorem step_st {m : Mc} {l : List UInt8} {n : List Int} (h : numsW l wStop 2 = some n) : stpR m l = some ⟨m.st ++ [ptOf n], m.cx, m.cy, m.wx, m.wy, m.rs⟩ := by
 unfold stpR; rw [h]
theorem step_ch {m : Mc} {l : List UInt8} {n : List Int} (h : numsW l wStop 2 = none) (h2 : numsW l wChuck 4 = some n) : stpR m l = some ⟨m.st, ⟨n.getD 0 0, n.getD 1 0⟩, ⟨n.getD 2 0, n.getD 3 0⟩, m.wx, m.wy, m.rs⟩ := by
 unfold stpR; rw [h, h2]
theorem step_we {m : Mc} {l : List UInt8} {n : List Int} (h : numsW l wStop 2 = none) (h2 : numsW l wChuck 4 = none) (h3 : numsW l wWear 4 = some n) : stpR m l = some ⟨m.st, m.cx, m.cy, ⟨n.getD 0 0, n.getD 1 0⟩, ⟨n.getD 2 0, n.getD 3 0⟩, m.rs⟩ := by
 unfold stpR; rw [h, h2, h3]
theorem step_rd {m : Mc} {l : List UInt8} {n : List Int} (h : numsW l wStop 2 = none) (h2 : numsW l wChuck 4 = none) (h3 : numsW l wWear 4 = none) (h4 : numsW l wRead 4 = some n) : stpR m l = some ⟨m.st, m.cx, m.cy, m.wx, m.wy, m.rs ++ [rdOf n]⟩ := by
 unfold stpR; rw [h, h2, h3, h4]
theorem step_no {m : Mc} {l : List UInt8} (h : numsW l wStop 2 = none) (h2 : numsW l wChuck 4 = none) (h3 : numsW l wWear 4 = none) (h4 : numsW l wRead 4 = none) : stpR m l = none := by
 unfold stpR; rw [h, h2, h3, h4]
theorem told_some {s w : List UInt8} {many : Nat} {l : List Int} (h : numsW s w many = some l) : toldV s w many = l := by unfold toldV; rw [h]; rfl
theorem told_none {s w : List UInt8} {many : Nat} (h : numsW s w many = none) : toldV s w many = [] := by unfold toldV; rw [h]; rfl
theorem ref_some {s : List UInt8} {m : Mc} (h : fldR m0 (((spL 10 s).drop 1).take ((spL 10 s).length - 3)) = some m) : refRead s = (m, decide (textM m = s)) := by
 unfold refRead; rw [h]
theorem ref_none {s : List UInt8} (h : fldR m0 (((spL 10 s).drop 1).take ((spL 10 s).length - 3)) = none) : refRead s = (m0, false) := by
 unfold refRead; rw [h]
noncomputable def sp86 : List AV → Option AV
 | [.str s] => if decide (s.length ≤ 400) = true then some (.tuple [mcV (refRead s).1, .bool (refRead s).2]) else none
 | _ => none
theorem p86 : ∀ args v, sp86 args = some v → v.pur = true := by
 intro args v h
 unfold sp86 at h
 split at h
 ·split at h
  ·cases h
   simp [AV.pur, AV.purL, mcV_pur]
  ·cases h
 ·cases h
noncomputable def cXR : Itr
 | 84 => some (flatFnD sp140)
 | 145 => some (pureFn sp145)
 | 146 => some (pureFn sp146)
 | _ => none
theorem cXR_sound (hT : TabK Tryz.prog) : Sound (dX cXR) := dX_sound (fun f g h => by
 unfold cXR at h
 split at h
 ·cases h; exact F84 hT
 ·cases h; exact F145
 ·cases h; exact F146
 ·cases h)
theorem Blt.oth2 {h h' : Heap} {v w : AV} {s1 s2 : Nat} {l m : List AV} (b : Blt h v s1 l) (bw : Blt h w s2 m) (hne : s1 ≠ s2) (k : Keeps h h' w) : Blt h' v s1 l := by
 have : BltN 0 h v s1 l := by
  rcases b with q | ⟨j, q1, q2, q3, q4⟩
  ·exact .inl q
  ·exact .inr ⟨j, q1, q2, Nat.zero_le _, q3, q4⟩
 exact (this.other bw hne k).blt
theorem frz_two' {hp : Heap} {u v : AV} {s1 s2 : Nat} {l m : List AV} (bu : Blt hp u s1 l) (bv : Blt hp v s2 m) (hne : s1 ≠ s2) : ∃ h1 h2, frz1 hp u = some (slN l, h1) ∧ frz1 h1 v = some (slN m, h2) := by
 obtain ⟨h1, e1, e2, e3⟩ := bu.frz1
 have bv' : Blt h1 v s2 m := bv.oth2 bu (Ne.symm hne) ⟨by omega, fun id _ k => e3 id k⟩
 obtain ⟨h2, f1, f2, f3⟩ := bv'.frz1
 exact ⟨h1, h2, e1, f1⟩
attribute [local irreducible] numsW numW textM refRead fldR stpR toldV okM
set_option maxHeartbeats 16000000 in
theorem F86 (hT : TabK Tryz.prog) : IntrFn Tryz.prog 86 (pureFn sp86) := by
 refine pure_fn (X := dX cXR) (cXR_sound hT) p86 ?_
 intro args v h
 unfold sp86 at h
 split at h
 ·rename_i s
  split at h
  ·rename_i hs
   have h := Option.some.inj h
   subst h
   have hs : s.length ≤ 400 := by simpa using hs
   have k145 := fun h => K145 (X := dX cXR) rfl s 10 (n := 10) rfl (by omega) h
   obtain ⟨hl1, hl2⟩ := spL_len 10 s
   have hrs := fun m => ref_some (s := s) (m := m)
   have hrn := ref_none (s := s)
   have hne := spL_ne 10 s
   generalize spL 10 s = ls at *
   obtain ⟨l0, L0, rfl⟩ : ∃ l0 L0, ls = l0 :: L0 := by
    cases ls with
    | nil => exact absurd rfl hne
    | cons a b => exact ⟨a, b, rfl⟩
   have hsl : slN ((l0 :: L0).map AV.str) = .vslice ((l0 :: L0).map AV.str) := rfl
   rw [hsl] at k145
   have ha := strs_sl (l0 :: L0) (by unfold maxL; omega)
   have hlen := sl_len ha
   have hout := sl_out ha
   simp only [List.drop_succ_cons, List.drop_zero] at hrs hrn
   have hSl : (L0.take ((l0 :: L0).length - 3)).length = (l0 :: L0).length - 3 := by rw [List.length_take, List.length_cons]; omega
   have hSi : ∀ (k : Nat) (l : List UInt8), (L0.take ((l0 :: L0).length - 3))[k]? = some l → (l0 :: L0)[k + 1]? = some l := by
    intro k l hk
    rw [List.getElem?_take] at hk
    split at hk
    ·simpa using hk
    ·cases hk
   have hSm : ∀ l ∈ L0.take ((l0 :: L0).length - 3), l.length ≤ 1000 := fun l hl => by
    have := hl2 l (List.mem_cons_of_mem _ (List.mem_of_mem_take hl))
    omega
   generalize hSq : L0.take ((l0 :: L0).length - 3) = S at *
   generalize hva : AV.vslice ((l0 :: L0).map AV.str) = va at *
   have hLN : (l0 :: L0).length ≤ 401 := by omega
   have HA := Lib.hid ha
   have HSI := Lib.hid hSi
   have HSM := Lib.hid hSm
   have HRS := Lib.hid hrs
   have HRN := Lib.hid hrn
   have HSL := Lib.hid hSl
   generalize hNq : (l0 :: L0).length = N at *
   have HLN := Lib.hid hLN
   clear ha hSi hSm hrs hrn hSl hva hSq hl1 hl2 hne hsl hNq hLN hs
   refine ClR.walk (c := _) rfl Tryz.func86 rfl (by kernel_rfl) rfl isRet_fail ?_
   simp only [entryEnv, Nat.reduceAdd, emptyHp]
   repeat' (first | refine goS ?_ | (apply U6; exact Z1; exact Z1; (focus (simp only [List.nil_append, List.append_nil]; first | exact k145 _)); simp only [pM, pN, rR, rP]) | refine go2 (fun hh => ?_) (fun hh => ?_) | fail)
   clear k145
   refine W.loopN S.length (fun k F => ∃ e lm hp u v m, F = Fr.mk 86 false e lm hp [] none ∧ fldR m0 (S.take k) = some m ∧ m.st.length + m.rs.length ≤ k ∧ Blt hp u 2 (m.st.map ptC.enc) ∧ Blt hp v 4 (m.rs.map rdgC.enc) ∧
    lm.get 2 = some (0, [.nilslice, .int .i64 0, .int .i64 0, .int .i64 0, .int .i64 0, .int .i64 0, .int .i64 0, .int .i64 0, .int .i64 0, .nilslice]) ∧ lm.get 4 = some (0, [u, .int .i64 m.cx.lo, .int .i64 m.cx.hi, .int .i64 m.cy.lo, .int .i64 m.cy.hi, .int .i64 m.wx.lo, .int .i64 m.wx.hi, .int .i64 m.wy.lo, .int .i64 m.wy.hi, v]) ∧ e.get 2 = some (.lptr 2 0 0) ∧ e.get 4 = some (.lptr 4 0 0) ∧ e.get 0 = some (.str s) ∧ e.get 5 = some va ∧ e.get 6 = some (.int .i64 ↑(k + 1)) ∧ e.get 3 = some (.bool false) ∧ k ≤ S.length) ?_ ?_
   ·refine ⟨_, _, _, .nilslice, .nilslice, m0, rfl, by unfold fldR; rfl, Nat.zero_le _, Blt.nil, Blt.nil, ?_, ?_, ?_, ?_, ?_, ?_, ?_, ?_, Nat.zero_le _⟩
    all_goals first | (simp only [m0, go_sem, *, Nat.reduceLT, Int.reduceEq, Int.reduceBEq, Int.reduceLE, Int.reduceLT, Nat.reduceAdd, Nat.reduceBEq, Nat.reduceEqDiff, reduceIte, Nat.reduceLeDiff, Nat.reduceMul, Nat.reduceSub, reduceCtorEq]; done) | simp [m0, go_sem, *, Nat.reduceLT, Int.reduceEq, Int.reduceBEq, Int.reduceLE, Int.reduceLT, Nat.reduceAdd, Nat.reduceBEq, Nat.reduceEqDiff, reduceIte, Nat.reduceLeDiff, Nat.reduceMul, Nat.reduceSub, reduceCtorEq]
   rintro k F ⟨e, lm, hp, u, v, m, rfl, hfo, hcn, hB1, hB2, g2, g4, h2, h4, h0, h5, h6, h3, hk⟩
   have hbo := hB1.out
   have hbc := hB1.cells
   have hbt := hB1.tup
   have hbo2 := hB2.out
   have hbc2 := hB2.cells
   have hbt2 := hB2.tup
   simp only [AV.cells] at hbc hbc2
   simp only [isTuple] at hbt hbt2
   have HFO := Lib.hid hfo
   have HCN := Lib.hid hcn
   clear hfo hcn
   have wa : IntKind.i64.wrap (((k + 1 : Nat) : Int) + 2) = ((k + 3 : Nat) : Int) := by have := HLN.out; have := HSL.out; rw [wrap_small (by omega) (by omega)]; omega
   by_cases hlt : k < S.length
   ·have hd : decide (((k + 3 : Nat) : Int) < (N : Int)) = true := by have := HSL.out; simp only [decide_eq_true_eq]; omega
    have hw : IntKind.i64.wrap (((k + 1 : Nat) : Int) + 1) = ((k + 1 + 1 : Nat) : Int) := by have := HLN.out; have := HSL.out; rw [wrap_small (by omega) (by omega)]; omega
    obtain ⟨l, hl⟩ := get_some hlt
    have hix := fun H => strs_idx HA.out (HSI.out k l hl) H
    have hll0 := HSM.out l (List.mem_of_getElem? hl)
    have k146a := fun h => K146 (X := dX cXR) rfl l wStop 2 (m := 2) rfl hll0 (by omega) h
    have k146b := fun h => K146 (X := dX cXR) rfl l wChuck 4 (m := 4) rfl hll0 (by omega) h
    have k146c := fun h => K146 (X := dX cXR) rfl l wWear 4 (m := 4) rfl hll0 (by omega) h
    have k146d := fun h => K146 (X := dX cXR) rfl l wRead 4 (m := 4) rfl hll0 (by omega) h
    simp only [wStop, wChuck, wWear, wRead] at k146a k146b k146c k146d
    have ea : toldV l [115, 116, 111, 112] 2 = toldV l wStop 2 := rfl
    have eb : toldV l [99, 104, 117, 99, 107] 4 = toldV l wChuck 4 := rfl
    have ec : toldV l [119, 101, 97, 114] 4 = toldV l wWear 4 := rfl
    have ed : toldV l [114, 101, 97, 100, 105, 110, 103] 4 = toldV l wRead 4 := rfl
    rw [ea] at k146a
    rw [eb] at k146b
    rw [ec] at k146c
    rw [ed] at k146d
    have z0 : decide (((0 : Nat) : Int) > 0) = false := rfl
    have z2 : decide (((2 : Nat) : Int) > 0) = true := rfl
    have z4 : decide (((4 : Nat) : Int) > 0) = true := rfl
    have HL := Lib.hid hl
    have HLT := Lib.hid hlt
    clear hl hlt hll0 ea eb ec ed
    cases qa : numsW l wStop 2 with
    | some n =>
     obtain ⟨n1, _⟩ := nums_is qa
     obtain ⟨x, y, rfl⟩ : ∃ x y, n = [x, y] := by
      match n, n1 with
      | [x, y], _ => exact ⟨x, y, rfl⟩
     rw [told_some qa] at k146a
     simp only [intsE, List.map_cons, List.map_nil, slN] at k146a
     have hnx := fold_next HL.out HFO.out (step_st qa)
     have j0 := fun H => (idx2 x y H).1
     have j1 := fun H => (idx2 x y H).2
     have hll : (m.st.map ptC.enc).length + 1 ≤ most := by rw [List.length_map]; have := HCN.out; have := HLT.out; have := HLN.out; have := HSL.out; unfold most; omega
     have HNX := Lib.hid hnx
     have HB2 := Lib.hid hB2
     clear hnx qa n1 k146b k146c k146d hB2
     generalize hEq : m.st.map ptC.enc = ps at *
     have HEQ := Lib.hid hEq
     clear hEq
     repeat' (first | (apply W.drawQ (id := 8) (l1 := [0, 1, 2, 3, 4, 5, 6, 7, 8, 9]) (l2 := [10, 11, 12]); kernel_rfl; kernel_rfl; kernel_rfl; exact Z4) | (apply WO1.append (t := 22) (u := 22) (e := 38) (e' := 38) (sz := 2) (tl := []) (hb := hB1); exact Z1; exact rfl; exact Z2; exact Z2; exact Z2; (focus (exact ty_row22)); exact Z1; (focus (intro v hv; simp at hv; subst hv; rfl)); (focus (simp only [List.length_cons, List.length_nil]; exact hll)); (focus (simp)); (intro v' h' hB' ho' hK'; have hcc' := hB'.cells; have htt' := hB'.tup; simp only [AV.cells] at hcc'; simp only [isTuple] at htt'; simp only [pM, pN])) | refine go1 ?_ | (apply U6; exact Z1; exact Z1; (focus (simp only [List.nil_append, List.append_nil]; first | exact k146a _)); simp only [pM, pN, rR, rP]) | refine go2 (fun hh => ?_) (fun hh => ?_) | fail)
     refine ⟨HLT.out, _, _, _, v', v, _, rfl, HNX.out, by have := HCN.out; simp; omega, ?_, HB2.out.oth2 hB1 (by decide) hK', ?_, ?_, ?_, ?_, ?_, ?_, ?_, ?_, HLT.out⟩
     ·rw [List.map_append, HEQ.out]
      exact hB'
     all_goals exact Z2
    | none =>
     rw [told_none qa] at k146a
     simp only [intsE, List.map_nil, slN] at k146a
     cases qb : numsW l wChuck 4 with
     | some n =>
      obtain ⟨n1, _⟩ := nums_is qb
      obtain ⟨x, y, z, t, rfl⟩ : ∃ x y z t, n = [x, y, z, t] := by
       match n, n1 with
       | [x, y, z, t], _ => exact ⟨x, y, z, t, rfl⟩
      rw [told_some qb] at k146b
      simp only [intsE, List.map_cons, List.map_nil, slN] at k146b
      have hnx := fold_next HL.out HFO.out (step_ch qa qb)
      have j0 := fun H => (idx4 x y z t H).1
      have j1 := fun H => (idx4 x y z t H).2.1
      have j2 := fun H => (idx4 x y z t H).2.2.1
      have j3 := fun H => (idx4 x y z t H).2.2.2
      have HNX := Lib.hid hnx
      have HB1 := Lib.hid hB1
      have HB2 := Lib.hid hB2
      clear hnx qa qb n1 k146c k146d hB1 hB2
      repeat' (first | (apply W.draw (id := 11) (lc := [0, 1, 2, 3, 4, 5, 6, 7, 8, 9, 10, 11, 12, 13, 14, 15, 16, 17]) (hot := [(8, 15), (9, 15), (11, 15), (12, 15)]); kernel_rfl; kernel_rfl; kernel_rfl; exact Z4) | (apply WD.cons (o := ⟨some 56, _, _, _, _, none⟩); exact rfl; exact rfl) | (apply WD.cons (o := ⟨some 57, _, _, _, _, none⟩); exact rfl; exact rfl) | (apply WD.cons (o := ⟨some 58, _, _, _, _, none⟩); exact rfl; exact rfl) | (apply WD.cons (o := ⟨some 59, _, _, _, _, none⟩); exact rfl; exact rfl) | (apply WD.cons (o := ⟨some 60, _, _, _, _, none⟩); exact rfl; exact rfl) | (apply WD.cons (o := ⟨some 61, _, _, _, _, none⟩); exact rfl; exact rfl) | (apply WD.cons (o := ⟨some 62, _, _, _, _, none⟩); exact rfl; exact rfl) | (apply WD.cons (o := ⟨none, .store 48 (.tmp 62) (.tmp 54), _, _, _, none⟩); exact rfl; exact rfl) | (apply WD.cons (o := ⟨some 63, _, _, _, _, none⟩); exact rfl; exact rfl) | (apply WD.cons (o := ⟨none, .store 48 (.tmp 63) (.tmp 61), _, _, _, none⟩); exact rfl; exact rfl) | (refine WD.cons rfl rfl ?_) | (refine WD.nil ⟨?_, ?_⟩; rotate_left; simp only [tN, bN, eN, true_and]) | (refine calmR rfl rfl rfl rfl rfl ?_ ?_; (focus (first | exact Z2 | exact Z1))) | (refine calmE rfl rfl rfl rfl rfl ?_ ?_; (focus (first | exact Z2 | exact Z1))) | (with_reducible refine calmEnd) | refine go1 ?_ | (apply U6; exact Z1; exact Z1; (focus (simp only [List.nil_append, List.append_nil]; first | exact k146a _ | exact k146b _)); simp only [pM, pN, rR, rP]) | refine go2 (fun hh => ?_) (fun hh => ?_) | fail)
      refine ⟨HLT.out, _, _, _, u, v, _, rfl, HNX.out, by have := HCN.out; simp only; omega, HB1.out, HB2.out, ?_, ?_, ?_, ?_, ?_, ?_, ?_, ?_, HLT.out⟩
      all_goals (simp only [List.getD_cons_zero, List.getD_cons_succ, go_sem, *, Nat.reduceLT, Int.reduceEq, Int.reduceBEq, Int.reduceLE, Int.reduceLT, Nat.reduceAdd, Nat.reduceBEq, Nat.reduceEqDiff, reduceIte, Nat.reduceLeDiff, Nat.reduceMul, Nat.reduceSub, reduceCtorEq]; done)
     | none =>
      rw [told_none qb] at k146b
      simp only [intsE, List.map_nil, slN] at k146b
      cases qc : numsW l wWear 4 with
      | some n =>
       obtain ⟨n1, _⟩ := nums_is qc
       obtain ⟨x, y, z, t, rfl⟩ : ∃ x y z t, n = [x, y, z, t] := by
        match n, n1 with
        | [x, y, z, t], _ => exact ⟨x, y, z, t, rfl⟩
       rw [told_some qc] at k146c
       simp only [intsE, List.map_cons, List.map_nil, slN] at k146c
       have hnx := fold_next HL.out HFO.out (step_we qa qb qc)
       have j0 := fun H => (idx4 x y z t H).1
       have j1 := fun H => (idx4 x y z t H).2.1
       have j2 := fun H => (idx4 x y z t H).2.2.1
       have j3 := fun H => (idx4 x y z t H).2.2.2
       have HNX := Lib.hid hnx
       have HB1 := Lib.hid hB1
       have HB2 := Lib.hid hB2
       clear hnx qa qb qc n1 k146d hB1 hB2
       repeat' (first | (apply W.draw (id := 14) (lc := [0, 1, 2, 3, 4, 5, 6, 7, 8, 9, 10, 11, 12, 13, 14, 15, 16, 17]) (hot := [(8, 15), (9, 15), (11, 15), (12, 15)]); kernel_rfl; kernel_rfl; kernel_rfl; exact Z4) | (apply WD.cons (o := ⟨some 80, _, _, _, _, none⟩); exact rfl; exact rfl) | (apply WD.cons (o := ⟨some 81, _, _, _, _, none⟩); exact rfl; exact rfl) | (apply WD.cons (o := ⟨some 82, _, _, _, _, none⟩); exact rfl; exact rfl) | (apply WD.cons (o := ⟨some 83, _, _, _, _, none⟩); exact rfl; exact rfl) | (apply WD.cons (o := ⟨some 84, _, _, _, _, none⟩); exact rfl; exact rfl) | (apply WD.cons (o := ⟨some 85, _, _, _, _, none⟩); exact rfl; exact rfl) | (apply WD.cons (o := ⟨some 86, _, _, _, _, none⟩); exact rfl; exact rfl) | (apply WD.cons (o := ⟨none, .store 48 (.tmp 86) (.tmp 78), _, _, _, none⟩); exact rfl; exact rfl) | (apply WD.cons (o := ⟨some 87, _, _, _, _, none⟩); exact rfl; exact rfl) | (apply WD.cons (o := ⟨none, .store 48 (.tmp 87) (.tmp 85), _, _, _, none⟩); exact rfl; exact rfl) | (refine WD.cons rfl rfl ?_) | (refine WD.nil ⟨?_, ?_⟩; rotate_left; simp only [tN, bN, eN, true_and]) | (refine calmR rfl rfl rfl rfl rfl ?_ ?_; (focus (first | exact Z2 | exact Z1))) | (refine calmE rfl rfl rfl rfl rfl ?_ ?_; (focus (first | exact Z2 | exact Z1))) | (with_reducible refine calmEnd) | refine go1 ?_ | (apply U6; exact Z1; exact Z1; (focus (simp only [List.nil_append, List.append_nil]; first | exact k146a _ | exact k146b _ | exact k146c _)); simp only [pM, pN, rR, rP]) | refine go2 (fun hh => ?_) (fun hh => ?_) | fail)
       refine ⟨HLT.out, _, _, _, u, v, _, rfl, HNX.out, by have := HCN.out; simp only; omega, HB1.out, HB2.out, ?_, ?_, ?_, ?_, ?_, ?_, ?_, ?_, HLT.out⟩
       all_goals (simp only [List.getD_cons_zero, List.getD_cons_succ, go_sem, *, Nat.reduceLT, Int.reduceEq, Int.reduceBEq, Int.reduceLE, Int.reduceLT, Nat.reduceAdd, Nat.reduceBEq, Nat.reduceEqDiff, reduceIte, Nat.reduceLeDiff, Nat.reduceMul, Nat.reduceSub, reduceCtorEq]; done)
      | none =>
       rw [told_none qc] at k146c
       simp only [intsE, List.map_nil, slN] at k146c
       cases qd : numsW l wRead 4 with
       | some n =>
        obtain ⟨n1, _⟩ := nums_is qd
        obtain ⟨x, y, z, t, rfl⟩ : ∃ x y z t, n = [x, y, z, t] := by
         match n, n1 with
         | [x, y, z, t], _ => exact ⟨x, y, z, t, rfl⟩
        rw [told_some qd] at k146d
        simp only [intsE, List.map_cons, List.map_nil, slN] at k146d
        have hnx := fold_next HL.out HFO.out (step_rd qa qb qc qd)
        have j0 := fun H => (idx4 x y z t H).1
        have j1 := fun H => (idx4 x y z t H).2.1
        have j2 := fun H => (idx4 x y z t H).2.2.1
        have j3 := fun H => (idx4 x y z t H).2.2.2
        have hll : (m.rs.map rdgC.enc).length + 1 ≤ most := by rw [List.length_map]; have := HCN.out; have := HLT.out; have := HLN.out; have := HSL.out; unfold most; omega
        have HNX := Lib.hid hnx
        have HB1 := Lib.hid hB1
        clear hnx qa qb qc qd n1 hB1
        generalize hEq : m.rs.map rdgC.enc = ps at *
        have HEQ := Lib.hid hEq
        clear hEq
        repeat' (first | (apply W.drawQ (id := 17) (l1 := [0, 1, 2, 3, 4, 5, 6, 7, 8, 9, 10, 11, 12, 13, 14, 15]) (l2 := [16, 17, 18]); kernel_rfl; kernel_rfl; kernel_rfl; exact Z4) | (apply WO1.append (t := 49) (u := 49) (e := 95) (e' := 95) (sz := 4) (tl := []) (hb := hB2); exact Z1; exact rfl; exact Z2; exact Z2; exact Z2; (focus (exact ty_row49)); exact Z1; (focus (intro v hv; simp at hv; subst hv; rfl)); (focus (simp only [List.length_cons, List.length_nil]; exact hll)); (focus (simp)); (intro v' h' hB' ho' hK'; have hcc' := hB'.cells; have htt' := hB'.tup; simp only [AV.cells] at hcc'; simp only [isTuple] at htt'; simp only [pM, pN])) | refine go1 ?_ | (apply U6; exact Z1; exact Z1; (focus (simp only [List.nil_append, List.append_nil]; first | exact k146a _ | exact k146b _ | exact k146c _ | exact k146d _)); simp only [pM, pN, rR, rP]) | refine go2 (fun hh => ?_) (fun hh => ?_) | fail)
        refine ⟨HLT.out, _, _, _, u, v', _, rfl, HNX.out, by have := HCN.out; simp; omega, HB1.out.oth2 hB2 (by decide) hK', ?_, ?_, ?_, ?_, ?_, ?_, ?_, ?_, ?_, HLT.out⟩
        ·rw [List.map_append, HEQ.out]
         exact hB'
        all_goals exact Z2
       | none =>
        rw [told_none qd] at k146d
        simp only [intsE, List.map_nil, slN] at k146d
        have hrf := HRN.out (fold_stop HL.out HFO.out (step_no qa qb qc qd))
        rw [hrf]
        have hv : mcV (m0, false).1 = .agg [.nilslice, .int .i64 0, .int .i64 0, .int .i64 0, .int .i64 0, .int .i64 0, .int .i64 0, .int .i64 0, .int .i64 0, .nilslice] := rfl
        rw [hv]
        clear hrf hv qa qb qc qd hB1 hB2
        repeat' (first | refine goS ?_ | (apply U6; exact Z1; exact Z1; (focus (simp only [List.nil_append, List.append_nil]; first | exact k146a _ | exact k146b _ | exact k146c _ | exact k146d _)); simp only [pM, pN, rR, rP]) | refine go2 (fun hh => ?_) (fun hh => ?_) | fail)
        all_goals (simp only [resV_def (X := dX cXR) Tryz.func86, Tryz.results86]; first | exact J5 | refine J6 ?_)
   ·have hd : decide (((k + 3 : Nat) : Int) < (N : Int)) = false := by have := HSL.out; simp only [decide_eq_false_iff_not]; omega
    have hkl : S.take k = S := List.take_of_length_le (by omega)
    have hfo := HFO.out
    rw [hkl] at hfo
    have hrf := HRS.out m hfo
    have hok : okM m = true := by
     unfold okM
     rw [fold_small m0_small hfo, Bool.true_and, decide_eq_true_eq]
     have := HCN.out
     have := HLN.out
     have := HSL.out
     omega
    have hml : m.st.length ≤ maxL ∧ m.rs.length ≤ maxL := by
     have := HCN.out
     have := HLN.out
     have := HSL.out
     unfold maxL
     omega
    have k84 : Cl (dX cXR) 84 [.agg [u, .int .i64 m.cx.lo, .int .i64 m.cx.hi, .int .i64 m.cy.lo, .int .i64 m.cy.hi, .int .i64 m.wx.lo, .int .i64 m.wx.hi, .int .i64 m.wy.lo, .int .i64 m.wy.hi, v]] hp (.ret (.str (textM m)) hp none) := K84 (X := dX cXR) rfl (see_blt hB1 hml.1) (see_blt hB2 hml.2) hok
    obtain ⟨z1, z2, f1, f2⟩ := frz_two' hB1 hB2 (by decide)
    rw [hrf]
    have hv : mcV (m, decide (textM m = s)).1 = .agg [slN (m.st.map ptC.enc), .int .i64 m.cx.lo, .int .i64 m.cx.hi, .int .i64 m.cy.lo, .int .i64 m.cy.hi, .int .i64 m.wx.lo, .int .i64 m.wx.hi, .int .i64 m.wy.lo, .int .i64 m.wy.hi, slN (m.rs.map rdgC.enc)] := rfl
    have hq : (textM m == s) = decide (textM m = s) := by rw [Bool.eq_iff_iff]; simp
    rw [hv]
    clear hkl hfo hrf hok hml hlt hk hB1 hB2 hv
    generalize decide (textM m = s) = bq at *
    generalize textM m = tx at *
    repeat' (first | (apply W.draw (id := 19) (lc := [0, 1, 2, 3, 4, 5, 6]) (hot := [(0, 2)]); kernel_rfl; kernel_rfl; kernel_rfl; exact Z4) | (refine WD.cons rfl rfl ?_) | (refine WD.nil ⟨?_, ?_⟩; rotate_left; simp only [tN, bN, eN, true_and]) | (refine calmR rfl rfl rfl rfl rfl ?_ ?_; (focus (first | exact Z2 | exact Z1))) | (refine calmE rfl rfl rfl rfl rfl ?_ ?_; (focus (first | exact Z2 | exact Z1))) | (with_reducible refine calmEnd) | refine go1 ?_ | (apply U6; exact Z1; exact Z1; (focus (simp only [List.nil_append, List.append_nil]; first | exact k84)); simp only [pM, pN, rR, rP]) | refine go2 (fun hh => ?_) (fun hh => ?_) | fail)
    all_goals (simp only [resV_def (X := dX cXR) Tryz.func86, Tryz.results86]; first | exact J5 | refine J6 ?_)
  ·cases h
 ·cases h
theorem K86 {X : Ctx} (hX : X.intr 86 = some (pureFn sp86)) (s : List UInt8) (hs : s.length ≤ 400) (h : Heap) : Cl X 86 [.str s] h (.ret (.tuple [mcV (refRead s).1, .bool (refRead s).2]) h none) :=
 Cl.intr hX (by simp [pureFn, AV.pur, AV.purL, sp86, hs])
end Go.AM
