/-
  A part of the proof: contracts of functions.
-/
import Derived.Test.YtlhcjccaimmhgaaGreatDoorUAT
set_option linter.unusedSectionVars false
set_option linter.unusedVariables false
set_option linter.unusedSimpArgs false
set_option maxRecDepth 100000
namespace Go.AM
open Go Go.Proofs
variable [Keep]
attribute [local irreducible] W WO WO1 WD WQ WT thenQ blockQ endR isRet retK Cl ClR
attribute [local irreducible] isNew roundQ RdR boundsS machB boxL suitB posH clS clN tgR addU refBoxes bothV minT refT srchT prodL possB
noncomputable def c9 : Itr
 | 38 => some (pureFn sp38)
 | 40 => some (pureFn sp40)
 | 49 => some (pureFn sp49)
 | 50 => some (pureFn sp50)
 | 51 => some (pureFn sp162)
 | 52 => some (pureFn sp52)
 | 53 => some (flatFn sp53)
 | 54 => some (pureFn sp54)
 | f => c25 cK f
def gowB (st : List Pt) (b : BA) : Bool := butB b.holes b.err && decide (b.holes.length = st.length)
theorem suit_go (st : List Pt) (b : BA) : suitB true st b.holes b.err = gowB st b := by rw [suit_parts']; rfl
theorem tog_want (mach poss : Bool) (st : List Pt) (l : List BA) : (if ((l.length : Int) == 0) || decide ((l.length : Int) > 3) then (2 : Int) else if l.all (gowB st) then ableI mach poss else 2) = if togOk mach st l then (if poss then 0 else 7) else 2 := by
 unfold togOk ableI
 have e : inB (l.length : Int) 1 3 = !(((l.length : Int) == 0) || decide ((l.length : Int) > 3)) := by
  have hn : 0 ≤ (l.length : Int) := by omega
  generalize (l.length : Int) = n at hn
  rw [Bool.eq_iff_iff]
  simp [inB]
  omega
 rw [e]
 cases mach with
 | false => cases (((l.length : Int) == 0) || decide ((l.length : Int) > 3)) <;> simp
 | true =>
  have e2 : (l.all fun b => suitB true st b.holes b.err) = l.all (gowB st) := by
   congr 1
   funext b
   exact suit_go st b
  rw [e2]
  cases (((l.length : Int) == 0) || decide ((l.length : Int) > 3)) <;> cases l.all (gowB st) <;> simp
set_option maxHeartbeats 16000000 in
theorem T9 (la sa ra : AV) (cx cy wx wy : Sp) (st : List Pt) (rs : List Rdg) (l : List BA) (hl : isSl sa (st.map ptC.enc)) (hr : isSl ra (rs.map rdgC.enc)) (hla : isSl la (l.map butC.enc)) (hg : ∀ m ∈ l, m.good) :
  ClR (dX c9) 9 [.agg [sa, .int .i64 cx.lo, .int .i64 cx.hi, .int .i64 cy.lo, .int .i64 cy.hi, .int .i64 wx.lo, .int .i64 wx.hi, .int .i64 wy.lo, .int .i64 wy.hi, ra], la] emptyHp (isRet (.bool true)) := by
 have o1 := hla.out
 have o2 := hl.out
 have o3 := hr.out
 have t1 := hla.tup
 have t2 := hl.tup
 have t3 := hr.tup
 have c2 := hl.cells
 have c3 := hr.cells
 have ln2 : lenS sa = some st.length := by rw [hl.len, List.length_map]
 have ln1 : lenS la = some l.length := by rw [hla.len, List.length_map]
 have hp1 := hl.pur (enc_pur ptC st)
 have hp2 := hr.pur (enc_pur rdgC rs)
 have k25 : ∀ h, Cl (dX c9) 25 [] h (.ret (.bool true) h none) := fun h => K25 rfl h
 have k38 : ∀ h, Cl (dX c9) 38 [.agg [sa, .int .i64 cx.lo, .int .i64 cx.hi, .int .i64 cy.lo, .int .i64 cy.hi, .int .i64 wx.lo, .int .i64 wx.hi, .int .i64 wy.lo, .int .i64 wy.hi, ra]] h (.ret (.bool (decide ((st.length : Int) ≤ 6) && decide ((rs.length : Int) ≤ 6))) h none) := fun h => by
  have h1 := slLen_mk hl
  have h2 := slLen_mk hr
  exact Cl.intr (g := pureFn sp38) rfl (by simp [pureFn, AV.pur, AV.purL, hp1, hp2, sp38, h1, h2])
 have k48 := fun h => C48 c9 rfl rfl la l hla hg h
 simp only [isTuple] at t1 t2 t3
 simp only [AV.cells] at c2 c3
 by_cases g : (decide ((st.length : Int) ≤ 6) && decide ((rs.length : Int) ≤ 6)) = true ∧ btnsB l = true
 ·obtain ⟨ga, gb⟩ := g
  have g1 := ga
  have g2 := gb
  simp only [Bool.and_eq_true, decide_eq_true_eq] at g1
  unfold btnsB at g2
  simp only [Bool.and_eq_true, decide_eq_true_eq] at g2
  have h5 : l.length ≤ 5 := by omega
  have ht6 : l.take 6 = l := List.take_of_length_le (by omega)
  rw [ht6] at g2
  have hok : l.all BA.ok = true := List.all_eq_true.2 fun m hm => BA.good_ok (hg m hm) (List.all_eq_true.1 g2.1 m hm)
  have v1 : slV butC la = some l := slV_mk hla (by unfold maxL; omega)
  have v2 : slV ptC sa = some st := slV_mk hl (by unfold maxL; omega)
  have v3 : slV rdgC ra = some rs := slV_mk hr (by unfold maxL; omega)
  rw [ga] at k38
  rw [gb] at k48
  have k40 : ∀ h, Cl (dX c9) 40 [.agg [sa, .int .i64 cx.lo, .int .i64 cx.hi, .int .i64 cy.lo, .int .i64 cy.hi, .int .i64 wx.lo, .int .i64 wx.hi, .int .i64 wy.lo, .int .i64 wy.hi, ra]] h (.ret (.int .i64 (ableI (machB st cx cy wx wy rs) (possB cx cy wx wy rs))) h none) := fun h => Cl.intr (g := pureFn sp40) rfl (by
   simp only [pureFn, AV.pur, AV.purL, hp1, hp2, Bool.and_self, if_true, sp40, v2, v3]
   unfold possB
   rfl)
  have k49 := fun h => K49 (X := dX c9) rfl sa ra la st rs l cx cy wx wy v2 v3 v1 hok h5 h
  have h50 := fun q h => K50 (X := dX c9) rfl sa ra la st rs l cx cy wx wy v2 v3 v1 hok q h
  have h52 := fun hm hs h => K52 (X := dX c9) rfl sa ra la st rs l cx cy wx wy v2 v3 v1 hm hok hs h5 h
  have hwant := tog_want (machB st cx cy wx wy rs) (possB cx cy wx wy rs) st l
  have htog : togOk (machB st cx cy wx wy rs) st l = (machB st cx cy wx wy rs && inB l.length 1 3 && l.all fun b => suitB (machB st cx cy wx wy rs) st b.holes b.err) := rfl
  have hway : wayI (machB st cx cy wx wy rs) st l = if l.all (fun b => suitB (machB st cx cy wx wy rs) st b.holes b.err) then ((prodL (l.map (ddB st)) : Nat) : Int) else 0 := rfl
  have hsame : srchT (posH cx cy wx wy rs) (l.map (ddB st)) [] [[]] = refT (posH cx cy wx wy rs) (l.map (ddB st)) [] [] := srch_ref _ _
  rw [hsame] at h50
  generalize machB st cx cy wx wy rs = mach at *
  generalize possB cx cy wx wy rs = poss at *
  have hlens : ∀ s, refT (posH cx cy wx wy rs) (l.map (ddB st)) [] [] = some s → s.length ≤ 1000 := fun s e => by
   have := refT_len e
   rw [List.length_map] at this
   omega
  generalize refT (posH cx cy wx wy rs) (l.map (ddB st)) [] [] = so at *
  have HB := Lib.hid v1
  have HOK := Lib.hid hok
  have HL5 := Lib.hid h5
  have HLN := Lib.hid hlens
  clear hla hl hr hp1 hp2 v1 v2 v3 ga g1 g2 hsame ht6 hok hlens h5 hg gb
  by_cases hwy : decide (wayI mach st l > 1000) = true
  ·clear h50 h52 hwant htog hway k40
   generalize wayI mach st l = wn at *
   refine ClR.walk (c := _) rfl Tryz.func9 rfl (by kernel_rfl) rfl isRet_fail ?_
   simp only [entryEnv, Nat.reduceAdd, emptyHp]
   repeat' (first | refine goS ?_ | (apply U6; exact Z1; exact Z1; (focus (simp only [List.nil_append, List.append_nil]; first | exact k38 _ | exact k48 _ | exact k49 _ | exact k25 _)); simp only [pM, pN, rR, rP]) | refine go2 (fun hh => ?_) (fun hh => ?_) | fail)
   all_goals (simp only [resV_def (X := dX c9) Tryz.func9, Tryz.results9]; first | exact J5 | refine J6 ?_)
  ·have hwy2 : decide (wayI mach st l > 1000) = false := by simpa using hwy
   have hq : togOk mach st l = false ∨ prodL (l.map (ddB st)) ≤ 16000000 := by
    rw [hway] at hwy2
    cases hs : (l.all fun b => suitB mach st b.holes b.err) with
    | false => exact .inl (by rw [htog, hs, Bool.and_false])
    | true =>
     rw [hs] at hwy2
     simp only [if_true, decide_eq_false_iff_not] at hwy2
     exact .inr (by omega)
   have h50 := h50 hq
   have h52 := fun (hm : togOk mach st l = true) h => by
    rw [htog] at hm
    simp only [Bool.and_eq_true] at hm
    exact h52 hm.1.1 (by rw [hm.1.1] at hm; exact hm.2) h
   clear htog hway hwy hq
   generalize togOk mach st l = ok at *
   generalize wayI mach st l = wn at *
   obtain ⟨xv, ev, hret, oxv, txv, cxv, hcase⟩ : ∃ xv ev, togV ok poss so = .tuple [xv, .int .i64 ev] ∧ outV (some xv) = some xv ∧ isTuple xv = false ∧ xv.cells = [xv] ∧ ((∃ wv, (if ok then (if poss then (0 : Int) else 7) else 2) = wv ∧ (wv != 0) = true ∧ (ev == wv) = true ∧ lenS xv = some 0) ∨ ((if ok then (if poss then (0 : Int) else 7) else 2) = 0 ∧ ok = true ∧ ((so = none ∧ ev = 5 ∧ lenS xv = some 0) ∨ ∃ s, so = some s ∧ ev = 0 ∧ xv = slN (natsV s)))) := by
    cases ok with
    | false => exact ⟨_, _, rfl, rfl, rfl, rfl, .inl ⟨2, rfl, rfl, rfl, rfl⟩⟩
    | true =>
     cases poss with
     | false => exact ⟨_, _, rfl, rfl, rfl, rfl, .inl ⟨7, rfl, rfl, rfl, rfl⟩⟩
     | true =>
      cases so with
      | none => exact ⟨_, _, rfl, rfl, rfl, rfl, .inr ⟨rfl, rfl, .inl ⟨rfl, rfl, rfl⟩⟩⟩
      | some s => exact ⟨_, _, rfl, (slN_is _).out, (slN_is _).tup, (slN_is _).cells, .inr ⟨rfl, rfl, .inr ⟨s, rfl, rfl, rfl⟩⟩⟩
   rw [hret] at h50
   have k50 := h50
   have H52 := Lib.hid h52
   have HW := Lib.hid hwant
   have HCASE := Lib.hid hcase
   simp only [isTuple] at txv
   simp only [AV.cells] at cxv
   clear h50 hret h52 hwant hcase
   refine ClR.walk (c := _) rfl Tryz.func9 rfl (by kernel_rfl) rfl isRet_fail ?_
   simp only [entryEnv, Nat.reduceAdd, emptyHp]
   repeat' (first | refine goS ?_ | (apply U6; exact Z1; exact Z1; (focus (simp only [List.nil_append, List.append_nil]; first | exact k38 _ | exact k48 _ | exact k49 _ | exact k50 _ | exact k40 _)); simp only [pM, pN, rR, rP]) | refine go2 (fun hh => ?_) (fun hh => ?_) | fail)
   refine W.loopN l.length (fun k F => ∃ e lm, F = Fr.mk 9 false e lm ⟨0, .nil⟩ [] none ∧ lm.get 2 = some (0, [sa, .int .i64 cx.lo, .int .i64 cx.hi, .int .i64 cy.lo, .int .i64 cy.hi, .int .i64 wx.lo, .int .i64 wx.hi, .int .i64 wy.lo, .int .i64 wy.hi, ra]) ∧ e.get 1 = some la ∧ e.get 2 = some (.lptr 2 0 0) ∧ e.get 5 = some xv ∧ e.get 6 = some (.int .i64 ev) ∧ e.get 7 = some (.int .i64 (if (l.take k).all (gowB st) then ableI mach poss else 2)) ∧ e.get 8 = some (.int .i64 ↑k) ∧ k ≤ l.length) ?_ ?_
   ·refine ⟨_, _, rfl, ?_, ?_, ?_, ?_, ?_, ?_, ?_, ?_⟩ <;> first | (simp only [List.take_zero, List.all_nil, go_sem, *, Nat.reduceLT, Int.reduceEq, Int.reduceBEq, Int.reduceLE, Int.reduceLT, Nat.reduceAdd, Nat.reduceBEq, Nat.reduceEqDiff, reduceIte, Nat.reduceLeDiff, Nat.reduceMul, Nat.reduceSub, reduceCtorEq]; done) | simp [go_sem, *]
   clear k38 k48 k49 k50 k40
   rintro k F ⟨e, lm, rfl, m2, h1, h2, h5, h6, h7, h8, hk⟩
   by_cases hlt : k < l.length
   ·obtain ⟨b, hbk⟩ := get_some hlt
    have hbo := List.all_eq_true.1 HOK.out b (List.mem_of_getElem? hbk)
    have cb := BA.cells hbo
    have qb := BA.ok_is hbo
    have ob := sl_out qb
    have lb := sl_len qb
    have tb := (sl_one qb).2
    have hix := fun H => but_idx HB.out hbk (by rw [cb]; rfl) H
    have k51 := fun h => K51 (X := dX c9) rfl b.ha b.holes b.err qb h
    have hd : decide ((k : Int) < (l.length : Int)) = true := by simpa using hlt
    have hw := wrap_succ hlt (show l.length ≤ maxL by have := HL5.out; unfold maxL; omega)
    have hle : ((b.holes.length : Int) != (st.length : Int)) = !decide (b.holes.length = st.length) := by
     rw [Bool.eq_iff_iff]
     simp
     omega
    have hnx : (if (l.take (k + 1)).all (gowB st) then ableI mach poss else 2) = if gowB st b then (if (l.take k).all (gowB st) then ableI mach poss else 2) else 2 := by
     rw [take_next hbk, List.all_append]
     cases (l.take k).all (gowB st) <;> cases q : gowB st b <;> simp [q]
    have hgo : gowB st b = (butB b.holes b.err && decide (b.holes.length = st.length)) := rfl
    have HNX := Lib.hid hnx
    have HGO := Lib.hid hgo
    simp only [AV.cells] at cb
    simp only [isTuple] at tb
    clear hbk hbo qb hnx hgo hk
    generalize (if (l.take k).all (gowB st) then ableI mach poss else 2) = wk at *
    have hcase : (butB b.holes b.err = false ∧ gowB st b = false) ∨ (butB b.holes b.err = true ∧ decide (b.holes.length = st.length) = false ∧ gowB st b = false) ∨ (butB b.holes b.err = true ∧ decide (b.holes.length = st.length) = true ∧ gowB st b = true) := by
     rw [HGO.out]
     cases butB b.holes b.err <;> cases decide (b.holes.length = st.length) <;> simp
    rcases hcase with ⟨c1', su⟩ | ⟨c1', c3', su⟩ | ⟨c1', c3', su⟩
    ·rw [c1'] at k51
     rw [su] at HNX
     clear c1' su HGO hle
     repeat' (first | (apply W.drawQ (id := 8) (l1 := [0, 1, 2, 3, 4, 5, 6, 7, 8, 9, 10, 11, 12, 13, 14, 15, 16, 17]) (l2 := []); kernel_rfl; kernel_rfl; kernel_rfl; exact Z4) | refine go1 ?_ | (apply U6; exact Z1; exact Z1; (focus (simp only [List.nil_append, List.append_nil]; first | exact k51 _)); simp only [pM, pN, rR, rP]) | refine go2 (fun hh => ?_) (fun hh => ?_) | fail)
     refine ⟨hlt, _, _, rfl, ?_, ?_, ?_, ?_, ?_, ?_, ?_, by omega⟩
     all_goals first | exact Z2 | (rw [HNX.out]; simp only [Bool.false_eq_true, if_false, go_sem, *, Nat.reduceLT, Int.reduceEq, Int.reduceBEq, Int.reduceLE, Int.reduceLT, Nat.reduceAdd, Nat.reduceBEq, Nat.reduceEqDiff, reduceIte, Nat.reduceLeDiff, Nat.reduceMul, Nat.reduceSub, reduceCtorEq]; done)
    ·rw [c1'] at k51
     rw [su] at HNX
     rw [c3'] at hle
     simp only [Bool.not_false] at hle
     clear c1' c3' su HGO
     repeat' (first | (apply W.drawQ (id := 8) (l1 := [0, 1, 2, 3, 4, 5, 6, 7, 8, 9, 10, 11, 12, 13, 14, 15, 16, 17]) (l2 := []); kernel_rfl; kernel_rfl; kernel_rfl; exact Z4) | refine go1 ?_ | (apply U6; exact Z1; exact Z1; (focus (simp only [List.nil_append, List.append_nil]; first | exact k51 _)); simp only [pM, pN, rR, rP]) | refine go2 (fun hh => ?_) (fun hh => ?_) | fail)
     refine ⟨hlt, _, _, rfl, ?_, ?_, ?_, ?_, ?_, ?_, ?_, by omega⟩
     all_goals first | exact Z2 | (rw [HNX.out]; simp only [Bool.false_eq_true, if_false, go_sem, *, Nat.reduceLT, Int.reduceEq, Int.reduceBEq, Int.reduceLE, Int.reduceLT, Nat.reduceAdd, Nat.reduceBEq, Nat.reduceEqDiff, reduceIte, Nat.reduceLeDiff, Nat.reduceMul, Nat.reduceSub, reduceCtorEq]; done)
    ·rw [c1'] at k51
     rw [su] at HNX
     rw [c3'] at hle
     simp only [Bool.not_true] at hle
     clear c1' c3' su HGO
     repeat' (first | (apply W.drawQ (id := 8) (l1 := [0, 1, 2, 3, 4, 5, 6, 7, 8, 9, 10, 11, 12, 13, 14, 15, 16, 17]) (l2 := []); kernel_rfl; kernel_rfl; kernel_rfl; exact Z4) | refine go1 ?_ | (apply U6; exact Z1; exact Z1; (focus (simp only [List.nil_append, List.append_nil]; first | exact k51 _)); simp only [pM, pN, rR, rP]) | refine go2 (fun hh => ?_) (fun hh => ?_) | fail)
     refine ⟨hlt, _, _, rfl, ?_, ?_, ?_, ?_, ?_, ?_, ?_, by omega⟩
     all_goals first | exact Z2 | (rw [HNX.out]; simp only [if_true, go_sem, *, Nat.reduceLT, Int.reduceEq, Int.reduceBEq, Int.reduceLE, Int.reduceLT, Nat.reduceAdd, Nat.reduceBEq, Nat.reduceEqDiff, reduceIte, Nat.reduceLeDiff, Nat.reduceMul, Nat.reduceSub, reduceCtorEq]; done)
   ·have hd : decide ((k : Int) < (l.length : Int)) = false := by simpa using hlt
    have hkl : l.take k = l := List.take_of_length_le (by omega)
    rw [hkl] at h7
    have hw := HW.out
    clear hkl hlt hk
    generalize hal : l.all (gowB st) = al at *
    have HB3 : ∃ b0 b3, ((l.length : Int) == 0) = b0 ∧ decide ((l.length : Int) > 3) = b3 ∧ (b0 = true ∨ b3 = true ∨ (b0 = false ∧ b3 = false)) := ⟨_, _, rfl, rfl, by
     cases ((l.length : Int) == 0) <;> cases decide ((l.length : Int) > 3) <;> simp⟩
    obtain ⟨b0, b3, z0, z3, zc⟩ := HB3
    rw [z0, z3] at hw
    have HZ := Lib.hid hw
    have b20 : ((2 : Int) != 0) = true := rfl
    have b55 : ((5 : Int) == 5) = true := rfl
    have e00 : ((0 : Int) == 0) = true := rfl
    have zz0 : (((0 : Nat) : Int) == 0) = true := rfl
    have b00 : ((0 : Int) != 0) = false := rfl
    have tt : (true && true) = true := rfl
    clear hw hal
    have hfin : ∃ w', (if b0 || b3 then (2 : Int) else if al then ableI mach poss else 2) = w' ∧ ((b0 = true ∧ w' = 2) ∨ (b0 = false ∧ b3 = true ∧ w' = 2) ∨ (b0 = false ∧ b3 = false ∧ w' = (if al then ableI mach poss else 2))) := ⟨_, rfl, by cases b0 <;> cases b3 <;> simp⟩
    obtain ⟨w', hw', hc'⟩ := hfin
    have HZW := Lib.hid (HZ.out.symm.trans hw')
    generalize (if al then ableI mach poss else 2) = wv0 at *
    clear hw' zc HZ HW
    rcases HCASE.out with ⟨wv, q1, q2, q3, q4⟩ | ⟨q1, q2, q3⟩
    ·have hww : w' = wv := HZW.out.symm.trans q1
     clear q1
     rcases hc' with ⟨rfl, rfl⟩ | ⟨rfl, rfl, rfl⟩ | ⟨rfl, rfl, rfl⟩
     all_goals (
      subst hww
      repeat' (first | refine goS ?_ | (apply U6; exact Z1; exact Z1; (focus (simp only [List.nil_append, List.append_nil]; first | exact k25 _)); simp only [pM, pN, rR, rP]) | refine go2 (fun hh => ?_) (fun hh => ?_) | fail)
      all_goals (simp only [resV_def (X := dX c9) Tryz.func9, Tryz.results9]; first | exact J5 | refine J6 ?_))
    ·have hww : w' = 0 := HZW.out.symm.trans q1
     clear q1
     subst q2
     have k52 := H52.out rfl
     rcases hc' with ⟨_, rfl⟩ | ⟨_, _, rfl⟩ | ⟨rfl, rfl, rfl⟩
     ·exact absurd hww (by decide)
     ·exact absurd hww (by decide)
     ·subst hww
      rcases q3 with ⟨rfl, rfl, ln0⟩ | ⟨s, rfl, rfl, rfl⟩
      ·simp only [refTV] at k52
       repeat' (first | refine goS ?_ | (apply U6; exact Z1; exact Z1; (focus (simp only [List.nil_append, List.append_nil]; first | exact k52 _ | exact k25 _)); simp only [pM, pN, rR, rP]) | refine go2 (fun hh => ?_) (fun hh => ?_) | fail)
       all_goals (simp only [resV_def (X := dX c9) Tryz.func9, Tryz.results9]; first | exact J5 | refine J6 ?_)
      ·simp only [refTV] at k52
       have hsl := HLN.out s rfl
       have hsv : slV intC (slN (natsV s)) = some (s.map fun k : Nat => (k : Int)) := by rw [natsV_ints]; exact slV_slN (by rw [List.length_map]; unfold maxL; omega)
       have k53 := fun h => K53 (X := dX c9) rfl _ _ _ _ hsv hsv h
       rw [decide_eq_true rfl] at k53
       clear hsv hsl
       generalize slN (natsV s) = sv at *
       repeat' (first | refine goS ?_ | (apply U6; exact Z1; exact Z1; (focus (simp only [List.nil_append, List.append_nil]; first | exact k52 _ | exact k53 _ | exact k25 _)); simp only [pM, pN, rR, rP]) | refine go2 (fun hh => ?_) (fun hh => ?_) | fail)
       all_goals (simp only [resV_def (X := dX c9) Tryz.func9, Tryz.results9]; first | exact J5 | refine J6 ?_)
 ·have hd : (decide ((st.length : Int) ≤ 6) && decide ((rs.length : Int) ≤ 6)) = false ∨ ((decide ((st.length : Int) ≤ 6) && decide ((rs.length : Int) ≤ 6)) = true ∧ btnsB l = false) := by
   by_cases ga : (decide ((st.length : Int) ≤ 6) && decide ((rs.length : Int) ≤ 6)) = true
   ·by_cases gb : btnsB l = true
    ·exact absurd ⟨ga, gb⟩ g
    ·exact .inr ⟨ga, Bool.eq_false_iff.2 gb⟩
   ·exact .inl (Bool.eq_false_iff.2 ga)
  clear hla hl hr hp1 hp2 g hg
  generalize (decide ((st.length : Int) ≤ 6) && decide ((rs.length : Int) ≤ 6)) = sl at *
  generalize btnsB l = bl at *
  refine ClR.walk (c := _) rfl Tryz.func9 rfl (by kernel_rfl) rfl isRet_fail ?_
  simp only [entryEnv, Nat.reduceAdd, emptyHp]
  rcases hd with rfl | ⟨rfl, rfl⟩
  all_goals (
   repeat' (first | refine goS ?_ | (apply U6; exact Z1; exact Z1; (focus (simp only [List.nil_append, List.append_nil]; first | exact k38 _ | exact k48 _ | exact k25 _)); simp only [pM, pN, rR, rP]) | refine go2 (fun hh => ?_) (fun hh => ?_) | fail)
   all_goals (simp only [resV_def (X := dX c9) Tryz.func9, Tryz.results9]; first | exact J5 | refine J6 ?_))
end Go.AM
