/-
  A part of the proof: contracts of functions.
-/
import Derived.Test.YtlhcjccaimmhgaaGreatDoorWAO
import Derived.Test.YtlhcjccaimmhgaaGreatDoorWAK
set_option linter.unusedSectionVars false
set_option linter.unusedVariables false
set_option linter.unusedSimpArgs false
set_option maxRecDepth 100000
namespace Go.AM
open Go Go.Proofs
variable [Keep]
attribute [local irreducible] W WO WO1 WD WQ WT thenQ blockQ endR isRet retK Cl ClR
attribute [local irreducible] roundQ RdR
def natsV (p : List Nat) : List AV := p.map fun k : Nat => AV.int .i64 (k : Int)
section
variable {X : Ctx} {ops : Array Oper} {K P : AV → Fr → Prop} {F : Fr} {d : Option Tmp} {T : TypeId} {p : String} {af : Array Edge}
end
def clR (h : Heap) (l : List AV) (r : COut) : Prop := ∃ v h', r = .ret v h' none ∧ BltN h.next h' v 1 l ∧ HExt h h'
attribute [local irreducible] clR
end Go.AM
namespace Go.AM
open Go Go.Proofs
variable [Keep]
attribute [local irreducible] W WO WO1 WD WQ WT thenQ blockQ endR isRet retK Cl ClR
attribute [local irreducible] roundQ RdR clR
theorem Blt.ext {h h' : Heap} {v : AV} {sz : Nat} {l : List AV} (b : Blt h v sz l) (k : HExt h h') : Blt h' v sz l := by
 rcases b with q | ⟨id, h1, h2, h3, h4⟩
 ·exact .inl q
 ·exact .inr ⟨id, h1, (k.2 id h3).trans h2, Nat.lt_of_lt_of_le h3 k.1, h4⟩
section
variable {X : Ctx} {ops : Array Oper} {K P : AV → Fr → Prop} {F : Fr} {d : Option Tmp} {T : TypeId} {p : String} {af : Array Edge}
end
def Elems (h : Heap) (es : List AV) (ps : List (List Nat)) : Prop := es.length = ps.length ∧ ∀ (i : Nat) (r : AV) (p : List Nat), es[i]? = some r → ps[i]? = some p → Blt h r 1 (natsV p)
theorem Elems.ext {h h' : Heap} {es : List AV} {ps : List (List Nat)} (q : Elems h es ps) (k : HExt h h') : Elems h' es ps := ⟨q.1, fun i r p h1 h2 => (q.2 i r p h1 h2).ext k⟩
theorem Elems.add {h : Heap} {es : List AV} {ps : List (List Nat)} {r : AV} {p : List Nat} (q : Elems h es ps) (b : Blt h r 1 (natsV p)) : Elems h (es ++ [r]) (ps ++ [p]) := by
 refine ⟨by simp [q.1], fun i r' p' h1 h2 => ?_⟩
 have hl := q.1
 rcases Nat.lt_trichotomy i es.length with c | c | c
 ·rw [List.getElem?_append_left c] at h1
  rw [List.getElem?_append_left (by omega)] at h2
  exact q.2 i r' p' h1 h2
 ·subst c
  rw [List.getElem?_append_right (Nat.le_refl _)] at h1
  rw [hl, List.getElem?_append_right (Nat.le_refl _)] at h2
  simp at h1 h2
  subst h1 h2
  exact b
 ·rw [List.getElem?_eq_none (by simp; omega)] at h1
  cases h1
end Go.AM
namespace Go.AM
open Go
variable [Keep]
section
variable {X : Ctx} {ops : Array Oper} {K P : AV → Fr → Prop} {F : Fr} {d : Option Tmp} {T : TypeId} {p : String} {af : Array Edge}
end
section
variable {X : Ctx} {f : FuncId} {ops : Array Oper} {ts : List (Nat × Trace)} {i k j : Nat} {r : List (Nat × Nat)} {x y o : Oper} {d : Option Tmp} {op : Op} {T : TypeId} {ps : String} {af : Array Edge} {want b : Bool} {s : Tmp}
  {f1 f2 : FuncId} {r1 r2 : Bool} {e1 e2 : Mp AV} {lm1 lm2 : Mp (Nat × List AV)} {hp1 hp2 : Heap} {df1 df2 : List (AV × List AV)} {up1 up2 : Option (AV × Bool)} {v1 v2 : AV} {a1 a2 b2 : Fr}
theorem calmR (h1 : ops[i]? = some ⟨d, op, T, ps, af, none⟩) (h2 : ops[k]? = some y) (h3 : traceOf ts i = some ⟨Fr.mk f1 r1 e1 lm1 hp1 df1 up1, v1, a1⟩) (h4 : traceOf ts k = some ⟨b2, v2, Fr.mk f2 r2 e2 lm2 hp2 df2 up2⟩)
  (h5 : isEffD X f ⟨d, op, T, ps, af, none⟩ = false) (h7 : rdV X (Fr.mk f1 r1 e1 lm2 hp2 df1 up1) d op = some v1) (h8 : r.all (calmPair X f ops ts) = true) : ((i, k) :: r).all (calmPair X f ops ts) = true := by
 simp only [List.all_cons, h8, Bool.and_true, calmPair, h1, h2, h3, h4, h5, Bool.false_eq_true, if_false, rereads, wantedA, if_true, h7]
 exact AV.same_refl _
theorem calmE (h1 : ops[i]? = some x) (h2 : ops[k]? = some ⟨d, op, T, ps, af, none⟩) (h3 : traceOf ts i = some ⟨Fr.mk f1 r1 e1 lm1 hp1 df1 up1, v1, a1⟩) (h4 : traceOf ts k = some ⟨Fr.mk f2 r2 e2 lm2 hp2 df2 up2, v2, a2⟩)
  (h5 : isEffD X f x = true) (h7 : rdV X (Fr.mk f2 r2 e2 lm1 hp1 df2 up2) d op = some v2) (h8 : r.all (calmPair X f ops ts) = true) : ((i, k) :: r).all (calmPair X f ops ts) = true := by
 simp only [List.all_cons, h8, Bool.and_true, calmPair, h1, h2, h3, h4, h5, if_true, rereads, wantedA, h7]
 exact AV.same_refl _
theorem calmEnd : ([] : List (Nat × Nat)).all (calmPair X f ops ts) = true := rfl
end
end Go.AM
namespace Go.AM
open Go Go.Proofs
variable [Keep]
attribute [local irreducible] W WO WO1 WD WQ WT thenQ blockQ endR isRet retK Cl ClR
def sp140 : List AV → Option AV
 | [.agg [sa, .int .i64 cxl, .int .i64 cxh, .int .i64 cyl, .int .i64 cyh, .int .i64 wxl, .int .i64 wxh, .int .i64 wyl, .int .i64 wyh, ra]] => match slV ptC sa, slV rdgC ra with
  | some st, some rs => if okM ⟨st, ⟨cxl, cxh⟩, ⟨cyl, cyh⟩, ⟨wxl, wxh⟩, ⟨wyl, wyh⟩, rs⟩ = true then some (.str (textM ⟨st, ⟨cxl, cxh⟩, ⟨cyl, cyh⟩, ⟨wxl, wxh⟩, ⟨wyl, wyh⟩, rs⟩)) else none
  | _, _ => none
 | _ => none
theorem p140 : ∀ args v, sp140 args = some v → v.flat = true := by
 intro args v h
 unfold sp140 at h
 split at h
 ·split at h
  ·split at h
   ·cases h; rfl
   ·cases h
  ·cases h
 ·cases h
noncomputable def cXH : Itr
 | 180 => some (pureFn sp180)
 | 181 => some (atOnce spItoa)
 | 182 => some spJoin
 | _ => none
theorem cXH_sound (hT : TabK Tryz.prog) : Sound (dX cXH) := dX_sound (fun f g h => by
 unfold cXH at h
 split at h
 ·cases h; exact F180 hT
 ·cases h; exact F181 hT
 ·cases h; exact F182
 ·cases h)
theorem lines_st {m : Mc} {k : Nat} {p : Pt} (h : m.st[k]? = some p) : (hdLine m :: (m.st.take (k + 1)).map stopL).map AV.str = (hdLine m :: (m.st.take k).map stopL).map AV.str ++ [.str (stopL p)] := by
 rw [take_next h]
 simp
def lines2 (m : Mc) (k : Nat) : List (List UInt8) := hdLine m :: (m.st.map stopL ++ (chuckL m :: wearL m :: (m.rs.take k).map readL))
theorem lines_rs {m : Mc} {k : Nat} {p : Rdg} (h : m.rs[k]? = some p) : (lines2 m (k + 1)).map AV.str = (lines2 m k).map AV.str ++ [.str (readL p)] := by
 unfold lines2
 rw [take_next h]
 simp
theorem lines_cw (m : Mc) : (lines2 m 0).map AV.str = (hdLine m :: m.st.map stopL).map AV.str ++ [.str (chuckL m), .str (wearL m)] := by
 unfold lines2
 simp
theorem lines2_all (m : Mc) : lines2 m m.rs.length = linesM m := by
 unfold lines2 linesM
 rw [List.take_length]
theorem K180g {X : Ctx} (hX : X.intr 180 = some (pureFn sp180)) (w : List UInt8) (ns : List Int) (hn : ns.all smallI = true) (hw : w.length ≤ 1000) (hl : ns.length ≤ 10) (h : Heap) : Cl X 180 [.str w, .vslice (ns.map (AV.int .i64))] h (.ret (.str (lineT w ns)) h none) :=
 K180 hX w _ ns (by
  have := decL_map intC ns
  unfold slV
  simp only
  rw [if_pos (by rw [List.length_map]; unfold maxL; omega)]
  exact this) hn hw h
attribute [local irreducible] textM linesM lineT ck ck1
set_option maxHeartbeats 4000000 in
theorem R140 : ∀ args v, sp140 args = some v → ClR (dX cXH) 140 args emptyHp (isRet v) := by
 intro args v h
 unfold sp140 at h
 split at h
 ·rename_i sa cxl cxh cyl cyh wxl wxh wyl wyh ra
  split at h
  ·rename_i st rs hl hr
   split at h
   ·rename_i hok
    have h := Option.some.inj h
    subst h
    generalize hmm : (⟨st, ⟨cxl, cxh⟩, ⟨cyl, cyh⟩, ⟨wxl, wxh⟩, ⟨wyl, wyh⟩, rs⟩ : Mc) = m at *
    obtain ⟨rfl, rfl⟩ : st = m.st ∧ rs = m.rs := by rw [← hmm]; exact ⟨rfl, rfl⟩
    unfold okM at hok
    simp only [Bool.and_eq_true, decide_eq_true_eq] at hok
    obtain ⟨hsm, hcnt⟩ := hok
    have l1 := sl_len hl
    have o1 := sl_out hl
    have l2 := sl_len hr
    have o2 := sl_out hr
    obtain ⟨n1, t1⟩ := sl_one hl
    obtain ⟨n2, t2⟩ := sl_one hr
    have k180m := fun h => K180g (X := dX cXH) rfl wMach [(m.st.length : Int), (m.rs.length : Int)] (by simp [smallI]; omega) (by decide) (by simp) h
    have hsc := smallI_of (sm_c hsm)
    have hsw := smallI_of (sm_w hsm)
    have k180c := fun h => K180g (X := dX cXH) rfl wChuck [m.cx.lo, m.cx.hi, m.cy.lo, m.cy.hi] hsc (by decide) (by simp) h
    have k180w := fun h => K180g (X := dX cXH) rfl wWear [m.wx.lo, m.wx.hi, m.wy.lo, m.wy.hi] hsw (by decide) (by simp) h
    have e1 : lineT wMach [(m.st.length : Int), (m.rs.length : Int)] = hdLine m := rfl
    have e2 : lineT wChuck [m.cx.lo, m.cx.hi, m.cy.lo, m.cy.hi] = chuckL m := rfl
    have e3 : lineT wWear [m.wx.lo, m.wx.hi, m.wy.lo, m.wy.hi] = wearL m := rfl
    rw [e1] at k180m
    rw [e2] at k180c
    rw [e3] at k180w
    have ecl : cxl = m.cx.lo ∧ cxh = m.cx.hi ∧ cyl = m.cy.lo ∧ cyh = m.cy.hi ∧ wxl = m.wx.lo ∧ wxh = m.wx.hi ∧ wyl = m.wy.lo ∧ wyh = m.wy.hi := by rw [← hmm]; simp
    obtain ⟨rfl, rfl, rfl, rfl, rfl, rfl, rfl, rfl⟩ := ecl
    have hd2 : ∀ l ∈ linesM m, l.length ≤ 100 := lines_100
    have hd3 := lines_cnt m
    have hhl := hd2 (hdLine m) (by simp [linesM])
    simp only [List.map_cons, List.map_nil, wMach, wChuck, wWear] at k180m k180c k180w
    have HSM := Lib.hid hsm
    have HL := Lib.hid hl
    have HR := Lib.hid hr
    have HD2 := Lib.hid hd2
    have HD3 := Lib.hid hd3
    have HCN := Lib.hid hcnt
    clear hsm hl hr hmm hsc hsw e1 e2 e3 hd2 hd3 hcnt hhl
    refine ClR.walk (c := _) rfl Tryz.func140 rfl (by kernel_rfl) rfl isRet_fail ?_
    simp only [entryEnv, Nat.reduceAdd, emptyHp]
    repeat' (first | (apply WO1.rowB (e := 9) (sz := 1); exact Z2; exact Z2; exact Z1; exact rfl; simp only [pM, pN, List.length_cons, List.length_nil]) | refine go1 ?_ | (apply U6; exact Z1; exact Z1; (focus (simp only [List.nil_append, List.append_nil]; first | exact k180m _)); simp only [pM, pN, rR, rP]) | refine go2 (fun hh => ?_) (fun hh => ?_) | fail)
    clear k180m
    refine W.loopN m.st.length (fun k F => ∃ e lm hp u, F = Fr.mk 140 false e lm hp [] none ∧ BltN 0 hp u 1 ((hdLine m :: (m.st.take k).map stopL).map AV.str) ∧
     lm.get 1 = some (0, [sa, .int .i64 m.cx.lo, .int .i64 m.cx.hi, .int .i64 m.cy.lo, .int .i64 m.cy.hi, .int .i64 m.wx.lo, .int .i64 m.wx.hi, .int .i64 m.wy.lo, .int .i64 m.wy.hi, ra]) ∧ e.get 1 = some (.lptr 1 0 0) ∧ e.get 3 = some u ∧ e.get 23 = some sa ∧ e.get 24 = some (.int .i64 ↑m.st.length) ∧ e.get 25 = some (.int .i64 ↑k) ∧ k ≤ m.st.length) ?_ ?_
    ·refine ⟨_, _, _, _, rfl, .inr ⟨0, rfl, ?_, Nat.le_refl _, ?_, by simp⟩, ?_, ?_, ?_, ?_, ?_, ?_, Nat.zero_le _⟩
     all_goals first | exact Z2 | simp [go_sem, *]
    rintro k F ⟨e, lm, hp, u, rfl, hB, g1, h1, h3, h23, h24, h25, hk⟩
    have hbo := hB.blt.out
    by_cases hlt : k < m.st.length
    ·obtain ⟨p, hp'⟩ := get_some hlt
     have hix := fun H => pts_idx HL.out hp' H
     have hd : decide ((k : Int) < (m.st.length : Int)) = true := by simpa using hlt
     have hw := wrap_succ hlt (by have := HCN.out; unfold maxL; omega)
     have hsp := smallI_of (sm_st HSM.out (List.mem_of_getElem? hp'))
     have k180s := fun h => K180g (X := dX cXH) rfl wStop [p.x, p.y] hsp (by decide) (by simp) h
     have e1 : lineT wStop [p.x, p.y] = stopL p := rfl
     rw [e1] at k180s
     simp only [List.map_cons, List.map_nil, wStop] at k180s
     have hnx := lines_st hp'
     have hll : ((hdLine m :: (m.st.take k).map stopL).map AV.str).length + 1 ≤ most := by
      simp only [List.length_map, List.length_cons, List.length_take]
      have := HCN.out
      unfold most
      omega
     have HNX := Lib.hid hnx
     have HLT := Lib.hid hlt
     clear hp' hsp e1 hnx hlt
     generalize (hdLine m :: (m.st.take k).map stopL).map AV.str = ls at *
     repeat' (first | (apply WO1.appendN (t := 208) (u := 208) (e := 9) (e' := 9) (sz := 1) (tl := []) (b := 0) (h0 := ⟨0, .nil⟩) (hb := hB) (hx := ⟨Nat.zero_le _, fun id h => absurd h (Nat.not_lt_zero id)⟩); exact Z1; exact rfl; exact Z2; exact Z2; exact Z2; (focus (exact ty_row208)); exact Z1; (focus (intro v hv; simp at hv; first | (subst hv; rfl) | (rcases hv with rfl | rfl <;> rfl))); (focus (simp only [List.length_map, List.length_cons, List.length_nil]; exact hll)); (focus (simp)); (intro v' h' hB' ho' hX'; have hcc' := hB'.blt.cells; have htt' := hB'.blt.tup; simp only [AV.cells] at hcc'; simp only [isTuple] at htt'; simp only [pM, pN])) | refine go1 ?_ | (apply U6; exact Z1; exact Z1; (focus (simp only [List.nil_append, List.append_nil]; first | exact k180s _)); simp only [pM, pN, rR, rP]) | refine go2 (fun hh => ?_) (fun hh => ?_) | fail)
     refine ⟨HLT.out, _, _, _, v', rfl, ?_, ?_, ?_, ?_, ?_, ?_, ?_, HLT.out⟩
     ·rw [HNX.out]; exact hB'
     all_goals exact Z2
    ·have hd : decide ((k : Int) < (m.st.length : Int)) = false := by simpa using hlt
     have hkl : m.st.take k = m.st := List.take_of_length_le (by omega)
     rw [hkl] at hB
     have hll : ((hdLine m :: m.st.map stopL).map AV.str).length + 2 ≤ most := by
      simp only [List.length_map, List.length_cons]
      have := HCN.out
      unfold most
      omega
     have HCW := Lib.hid (lines_cw m)
     clear hkl hlt hk
     generalize (hdLine m :: m.st.map stopL).map AV.str = ls at *
     repeat' (first | (apply W.draw (id := 7) (lc := [0, 1, 2, 3, 4, 5, 6, 7, 8, 9, 10, 11, 12, 13, 14, 15, 16, 17, 18, 19, 20, 21, 22, 23, 24, 25, 26, 27, 28, 29, 30, 31]) (hot := [(14, 17), (14, 20), (14, 23), (14, 26)]); kernel_rfl; kernel_rfl; kernel_rfl; exact Z4) | (apply WD.cons (o := ⟨some 47, _, _, _, _, none⟩); exact rfl; exact rfl) | (apply WD.cons (o := ⟨some 48, _, _, _, _, none⟩); exact rfl; exact rfl) | (apply WD.cons (o := ⟨some 49, _, _, _, _, none⟩); exact rfl; exact rfl) | (apply WD.cons (o := ⟨some 50, _, _, _, _, none⟩); exact rfl; exact rfl) | (apply WD.cons (o := ⟨some 51, _, _, _, _, none⟩); exact rfl; exact rfl) | (apply WD.cons (o := ⟨some 52, _, _, _, _, none⟩); exact rfl; exact rfl) | (apply WD.cons (o := ⟨some 53, _, _, _, _, none⟩); exact rfl; exact rfl) | (apply WD.cons (o := ⟨some 54, _, _, _, _, none⟩); exact rfl; exact rfl) | (apply WD.cons (o := ⟨some 55, _, _, _, _, none⟩); exact rfl; exact rfl) | (apply WD.cons (o := ⟨some 56, _, _, _, _, none⟩); exact rfl; exact rfl) | (apply WD.cons (o := ⟨some 57, _, _, _, _, none⟩); exact rfl; exact rfl) | (apply WD.cons (o := ⟨some 58, _, _, _, _, none⟩); exact rfl; exact rfl) | (apply WD.cons (o := ⟨some 59, _, _, _, _, none⟩); exact rfl; exact rfl) | (apply WD.cons (o := ⟨some 60, _, _, _, _, none⟩); exact rfl; exact rfl) | (apply WD.cons (o := ⟨some 61, _, _, _, _, none⟩); exact rfl; exact rfl) | (apply WD.cons (o := ⟨some 62, _, _, _, _, none⟩); exact rfl; exact rfl) | (apply WD.cons (o := ⟨some 63, _, _, _, _, none⟩); exact rfl; exact rfl) | (apply WD.cons (o := ⟨some 64, _, _, _, _, none⟩); exact rfl; exact rfl) | (apply WD.cons (o := ⟨some 65, _, _, _, _, none⟩); exact rfl; exact rfl) | (apply WD.cons (o := ⟨some 66, _, _, _, _, none⟩); exact rfl; exact rfl) | (apply WD.cons (o := ⟨some 67, _, _, _, _, none⟩); exact rfl; exact rfl) | (apply WD.cons (o := ⟨some 68, _, _, _, _, none⟩); exact rfl; exact rfl) | (apply WD.cons (o := ⟨some 69, _, _, _, _, none⟩); exact rfl; exact rfl) | (apply WD.cons (o := ⟨some 3, _, _, _, _, none⟩); exact rfl; exact rfl) | (refine WD.cons rfl rfl ?_) | (refine WD.nil ⟨?_, ?_⟩; rotate_left; simp only [tN, bN, eN, true_and]) | (refine calmR rfl rfl rfl rfl rfl ?_ ?_; (focus (first | exact Z2 | exact Z1))) | (refine calmE rfl rfl rfl rfl rfl ?_ ?_; (focus (first | exact Z2 | exact Z1))) | (with_reducible refine calmEnd) | (apply WO1.appendN (t := 208) (u := 208) (e := 9) (e' := 9) (sz := 1) (tl := []) (b := 0) (h0 := ⟨0, .nil⟩) (hb := hB) (hx := ⟨Nat.zero_le _, fun id h => absurd h (Nat.not_lt_zero id)⟩); exact Z1; exact rfl; exact Z2; exact Z2; exact Z2; (focus (exact ty_row208)); exact Z1; (focus (intro v hv; simp at hv; first | (subst hv; rfl) | (rcases hv with rfl | rfl <;> rfl))); (focus (simp only [List.length_map, List.length_cons, List.length_nil]; exact hll)); (focus (simp)); (intro v' h' hB' ho' hX'; have hcc' := hB'.blt.cells; have htt' := hB'.blt.tup; simp only [AV.cells] at hcc'; simp only [isTuple] at htt'; simp only [pM, pN])) | refine go1 ?_ | (apply U6; exact Z1; exact Z1; (focus (simp only [List.nil_append, List.append_nil]; first | exact k180c _ | exact k180w _)); simp only [pM, pN, rR, rP]) | refine go2 (fun hh => ?_) (fun hh => ?_) | fail)
     rw [← HCW.out] at hB'
     clear hB k180c k180w hll hd
     refine W.loopN m.rs.length (fun k F => ∃ e lm hp u, F = Fr.mk 140 false e lm hp [] none ∧ BltN 0 hp u 1 ((lines2 m k).map AV.str) ∧
      lm.get 1 = some (0, [sa, .int .i64 m.cx.lo, .int .i64 m.cx.hi, .int .i64 m.cy.lo, .int .i64 m.cy.hi, .int .i64 m.wx.lo, .int .i64 m.wx.hi, .int .i64 m.wy.lo, .int .i64 m.wy.hi, ra]) ∧ e.get 1 = some (.lptr 1 0 0) ∧ e.get 3 = some u ∧ e.get 71 = some ra ∧ e.get 72 = some (.int .i64 ↑m.rs.length) ∧ e.get 73 = some (.int .i64 ↑k) ∧ k ≤ m.rs.length) ?_ ?_
     ·refine ⟨_, _, _, _, rfl, hB', ?_, ?_, ?_, ?_, ?_, ?_, Nat.zero_le _⟩
      all_goals first | exact Z2 | simp [go_sem, *]
     clear g1 h1 h3 h23 h24 h25 hbo ho' hX' hcc' htt' hB'
     rintro k F ⟨e, lm, hp, u, rfl, hB, g1, h1, h3, h71, h72, h73, hk⟩
     have hbo := hB.blt.out
     by_cases hlt : k < m.rs.length
     ·obtain ⟨p, hp'⟩ := get_some hlt
      have hix := fun H => rdg_idx HR.out hp' H
      have hd : decide ((k : Int) < (m.rs.length : Int)) = true := by simpa using hlt
      have hw := wrap_succ hlt (by have := HCN.out; unfold maxL; omega)
      have hsp := smallI_of (sm_rs HSM.out (List.mem_of_getElem? hp'))
      have k180r := fun h => K180g (X := dX cXH) rfl wRead [p.b, p.x, p.y, p.err] hsp (by decide) (by simp) h
      have e1 : lineT wRead [p.b, p.x, p.y, p.err] = readL p := rfl
      rw [e1] at k180r
      simp only [List.map_cons, List.map_nil, wRead] at k180r
      have hnx := lines_rs hp'
      have hll : ((lines2 m k).map AV.str).length + 1 ≤ most := by
       simp only [lines2, List.length_map, List.length_cons, List.length_append, List.length_take]
       have := HCN.out
       unfold most
       omega
      have HNX := Lib.hid hnx
      have HLT := Lib.hid hlt
      clear hp' hsp e1 hnx hlt
      generalize (lines2 m k).map AV.str = ls at *
      repeat' (first | (apply WO1.appendN (t := 208) (u := 208) (e := 9) (e' := 9) (sz := 1) (tl := []) (b := 0) (h0 := ⟨0, .nil⟩) (hb := hB) (hx := ⟨Nat.zero_le _, fun id h => absurd h (Nat.not_lt_zero id)⟩); exact Z1; exact rfl; exact Z2; exact Z2; exact Z2; (focus (exact ty_row208)); exact Z1; (focus (intro v hv; simp at hv; first | (subst hv; rfl) | (rcases hv with rfl | rfl <;> rfl))); (focus (simp only [List.length_map, List.length_cons, List.length_nil]; exact hll)); (focus (simp)); (intro v' h' hB' ho' hX'; have hcc' := hB'.blt.cells; have htt' := hB'.blt.tup; simp only [AV.cells] at hcc'; simp only [isTuple] at htt'; simp only [pM, pN])) | refine go1 ?_ | (apply U6; exact Z1; exact Z1; (focus (simp only [List.nil_append, List.append_nil]; first | exact k180r _)); simp only [pM, pN, rR, rP]) | refine go2 (fun hh => ?_) (fun hh => ?_) | fail)
      refine ⟨HLT.out, _, _, _, v', rfl, ?_, ?_, ?_, ?_, ?_, ?_, ?_, HLT.out⟩
      ·rw [HNX.out]; exact hB'
      all_goals exact Z2
     ·have hd : decide ((k : Int) < (m.rs.length : Int)) = false := by simpa using hlt
      obtain rfl : k = m.rs.length := by omega
      rw [lines2_all] at hB
      have hlu := hB.blt.len
      rw [List.length_map] at hlu
      have htx : textM m = Lib.join (linesM m ++ [endL (ck 0 (linesM m) % 127)]) [10] ++ [10] := by rw [join_text]; unfold textM allL; rfl
      have HTX := Lib.hid htx
      clear htx hk hlt
      generalize linesM m = L at *
      have hLn : L.length ≤ 503 := by have := HD3.out; have := HCN.out; omega
      repeat' (first | refine goS ?_ | refine go2 (fun hh => ?_) (fun hh => ?_) | fail)
      refine W.loopN L.length (fun k F => ∃ e lm, F = Fr.mk 140 false e lm hp [] none ∧ e.get 8 = some (.int .i64 ↑(ck 0 (L.take k))) ∧ e.get 3 = some u ∧ e.get 91 = some u ∧ e.get 92 = some (.int .i64 ↑L.length) ∧ e.get 93 = some (.int .i64 ↑k) ∧ k ≤ L.length) ?_ ?_
      ·refine ⟨_, _, rfl, ?_, ?_, ?_, ?_, ?_, Nat.zero_le _⟩
       all_goals first | exact Z2 | simp [ck, go_sem, *, Nat.reduceLT, Int.reduceEq, Int.reduceBEq, Int.reduceLE, Int.reduceLT, Nat.reduceAdd, Nat.reduceBEq, Nat.reduceEqDiff, reduceIte, Nat.reduceLeDiff, Nat.reduceMul, Nat.reduceSub, reduceCtorEq]
      clear g1 h1 h3 h71 h72 h73 hd
      rintro k F ⟨e, lm, rfl, h8, h3, h91, h92, h93, hk⟩
      by_cases hlt : k < L.length
      ·obtain ⟨l, hl'⟩ := get_some hlt
       obtain ⟨id, hia, hgi, hgl⟩ := row_str hB hl'
       have hd : decide ((k : Int) < (L.length : Int)) = true := by simpa using hlt
       have hw := wrap_succ hlt (by unfold maxL; omega)
       have hll := HD2.out l (List.mem_of_getElem? hl')
       have hck := ck_next hl'
       have hb1 := ck_take_le HD2.out (by omega) k
       have HCK := Lib.hid hck
       have HLT := Lib.hid hlt
       have HB0 := Lib.hid hB
       clear hl' hck hlt hB
       generalize ck 0 (L.take (k + 1)) = c1 at *
       generalize ck 0 (L.take k) = c0 at *
       repeat' (first | refine goS ?_ | refine go2 (fun hh => ?_) (fun hh => ?_) | fail)
       refine W.loopN l.length (fun j F => ∃ e lm, F = Fr.mk 140 false e lm hp [] none ∧ e.get 8 = some (.int .i64 ↑(c0 + ck1 k 0 (l.take j))) ∧ e.get 9 = some (.int .i64 ↑k) ∧ e.get 10 = some (.str l) ∧ e.get 3 = some u ∧ e.get 91 = some u ∧ e.get 92 = some (.int .i64 ↑L.length) ∧ e.get 93 = some (.int .i64 ↑k) ∧ e.get 99 = some (.int .i64 ↑l.length) ∧ e.get 100 = some (.int .i64 ↑j) ∧ j ≤ l.length) ?_ ?_
       ·refine ⟨_, _, rfl, ?_, ?_, ?_, ?_, ?_, ?_, ?_, ?_, ?_, Nat.zero_le _⟩
        all_goals first | exact Z2 | simp [ck1, go_sem, *, Nat.reduceLT, Int.reduceEq, Int.reduceBEq, Int.reduceLE, Int.reduceLT, Nat.reduceAdd, Nat.reduceBEq, Nat.reduceEqDiff, reduceIte, Nat.reduceLeDiff, Nat.reduceMul, Nat.reduceSub, reduceCtorEq]
       clear h8 h3 h91 h92 h93 hia hgi hgl hd
       rintro j F ⟨e, lm, rfl, h8, h9, h10, h3, h91, h92, h93, h99, h100, hj⟩
       by_cases hjt : j < l.length
       ·obtain ⟨b, hb'⟩ := get_some hjt
        have hd : decide ((j : Int) < (l.length : Int)) = true := by simpa using hjt
        have hwj := wrap_succ hjt (by unfold maxL; omega)
        have hij := idx_j hjt
        have hbt := b.toNat_lt
        have hn1 := ck1_next k hb'
        have hb2 := ck1_take_le hll (show k ≤ 600 by have := HLT.out; omega) j
        have hb3 := ck1_take_le hll (show k ≤ 600 by have := HLT.out; omega) (j + 1)
        have hm1 : b.toNat * (j + 1) ≤ 255 * 100 := Nat.mul_le_mul (by omega) (by omega)
        have w1 : IntKind.i64.wrap ((b.toNat : Nat) : Int) = ((b.toNat : Nat) : Int) := wrap_small (by omega) (by omega)
        have w3 : IntKind.i64.wrap (((b.toNat : Nat) : Int) * ((j + 1 : Nat) : Int)) = ((b.toNat * (j + 1) : Nat) : Int) := by
         rw [← Int.natCast_mul, wrap_small (by omega) (by omega)]
        have w5 : IntKind.i64.wrap (((b.toNat * (j + 1) : Nat) : Int) * ((k + 1 : Nat) : Int)) = ((b.toNat * (j + 1) * (k + 1) : Nat) : Int) := by
         rw [← Int.natCast_mul, wrap_small (by omega) (by omega)]
        have w6 : IntKind.i64.wrap (((c0 + ck1 k 0 (l.take j) : Nat) : Int) + ((b.toNat * (j + 1) * (k + 1) : Nat) : Int)) = ((c0 + ck1 k 0 (l.take (j + 1)) : Nat) : Int) := by
         rw [hn1] at hb3 ⊢
         rw [← Int.natCast_add, wrap_small (by omega) (by omega), Nat.add_assoc]
        have HJT := Lib.hid hjt
        clear hbt hn1 hb2 hb3 hm1 hjt
        generalize ((c0 + ck1 k 0 (l.take (j + 1)) : Nat) : Int) = y1 at *
        generalize ((c0 + ck1 k 0 (l.take j) : Nat) : Int) = y0 at *
        generalize ((b.toNat * (j + 1) * (k + 1) : Nat) : Int) = y2 at *
        generalize ((b.toNat * (j + 1) : Nat) : Int) = y3 at *
        repeat' (first | refine goS ?_ | refine go2 (fun hh => ?_) (fun hh => ?_) | fail)
        refine ⟨HJT.out, _, _, rfl, ?_, ?_, ?_, ?_, ?_, ?_, ?_, ?_, ?_, HJT.out⟩
        all_goals exact Z2
       ·have hd : decide ((j : Int) < (l.length : Int)) = false := by simpa using hjt
        have hjl : l.take j = l := List.take_of_length_le (by omega)
        rw [hjl] at h8
        have hc1 : c0 + ck1 k 0 l = c1 := HCK.out.symm
        rw [hc1] at h8
        clear hjl hc1 hjt
        repeat' (first | refine goS ?_ | refine go2 (fun hh => ?_) (fun hh => ?_) | fail)
        refine ⟨HLT.out, _, _, rfl, ?_, ?_, ?_, ?_, ?_, HLT.out⟩
        all_goals exact Z2
      ·have hd : decide ((k : Int) < (L.length : Int)) = false := by simpa using hlt
       have hkl : L.take k = L := List.take_of_length_le (by omega)
       rw [hkl] at h8
       have hcb := ck_take_le HD2.out (by omega) L.length
       rw [List.take_length] at hcb
       have hll : L.length + 1 ≤ most := by
        unfold most
        omega
       have hjl := join_len (L ++ [endL (ck 0 L % 127)]) (fun l h => by
        rcases List.mem_append.1 h with h | h
        ·exact HD2.out l h
        ·rcases List.mem_singleton.1 h with rfl
         have := (end_ok (c := ck 0 L % 127) (Nat.mod_lt _ (by decide))).2
         omega)
       rw [List.length_append, List.length_cons, List.length_nil] at hjl
       have b127 : ((127 : Int) == 0) = false := rfl
       have b100 : ((100 : Int) == 0) = false := rfl
       have b10 : ((10 : Int) == 0) = false := rfl
       generalize hcc : ck 0 L % 127 = cc at *
       have hc7 : cc < 127 := by rw [← hcc]; exact Nat.mod_lt _ (by decide)
       have m1 : ((ck 0 L : Nat) : Int).tmod 127 = (cc : Int) := by rw [Int.tmod_eq_emod_of_nonneg (by omega)]; omega
       have m2 : ((cc : Nat) : Int).tdiv 100 = ((cc / 100 : Nat) : Int) := by rw [Int.tdiv_eq_ediv_of_nonneg (by omega)]; omega
       have m3 : ((cc : Nat) : Int).tdiv 10 = ((cc / 10 : Nat) : Int) := by rw [Int.tdiv_eq_ediv_of_nonneg (by omega)]; omega
       have m4 : ((cc / 10 : Nat) : Int).tmod 10 = ((cc / 10 % 10 : Nat) : Int) := by rw [Int.tmod_eq_emod_of_nonneg (by omega)]; omega
       have m5 : ((cc : Nat) : Int).tmod 10 = ((cc % 10 : Nat) : Int) := by rw [Int.tmod_eq_emod_of_nonneg (by omega)]; omega
       have m6 : IntKind.i64.wrap ((cc / 100 : Nat) : Int) = ((cc / 100 : Nat) : Int) := wrap_small (by omega) (by omega)
       have m7 : IntKind.i64.wrap ((cc / 10 : Nat) : Int) = ((cc / 10 : Nat) : Int) := wrap_small (by omega) (by omega)
       have hsI : ∀ x : Nat, x < 127 → smallI (x : Int) = true := fun x hx => by unfold smallI; simp; omega
       have k181a := fun h => K181 (X := dX cXH) rfl ((cc / 100 : Nat) : Int) (hsI _ (by omega)) h
       have k181b := fun h => K181 (X := dX cXH) rfl ((cc / 10 % 10 : Nat) : Int) (hsI _ (by omega)) h
       have k181c := fun h => K181 (X := dX cXH) rfl ((cc % 10 : Nat) : Int) (hsI _ (by omega)) h
       have i1 := itoa_len ((cc / 100 : Nat) : Int)
       have i2 := itoa_len ((cc / 10 % 10 : Nat) : Int)
       have i3 := itoa_len ((cc % 10 : Nat) : Int)
       have hend : endL cc = [101, 110, 100, 32] ++ itoaF ((cc / 100 : Nat) : Int) ++ itoaF ((cc / 10 % 10 : Nat) : Int) ++ itoaF ((cc % 10 : Nat) : Int) := rfl
       have HEND := Lib.hid hend
       have HJL := Lib.hid hjl
       have HLN := Lib.hid hLn
       have hsI := 0
       clear hend hjl hlt hkl hk hcb hcc hc7 hLn hsI hlu
       generalize itoaF ((cc / 100 : Nat) : Int) = t1' at *
       generalize itoaF ((cc / 10 % 10 : Nat) : Int) = t2' at *
       generalize itoaF ((cc % 10 : Nat) : Int) = t3' at *
       generalize ((cc / 100 : Nat) : Int) = c100 at *
       generalize ((cc / 10 % 10 : Nat) : Int) = c10 at *
       generalize ((cc / 10 : Nat) : Int) = c11 at *
       generalize ((cc % 10 : Nat) : Int) = c12 at *
       generalize ((cc : Nat) : Int) = cI at *
       generalize ((ck 0 L : Nat) : Int) = cL at *
       repeat' (first | (apply WO1.sadd; exact Z1; exact Z1; exact rfl; (focus (simp only [List.length_append, List.length_cons, List.length_nil]; omega)); simp only [pM, pN]) | (apply WO1.appendN (t := 208) (u := 208) (e := 9) (e' := 9) (sz := 1) (tl := []) (b := 0) (h0 := ⟨0, .nil⟩) (hb := hB) (hx := ⟨Nat.zero_le _, fun id h => absurd h (Nat.not_lt_zero id)⟩); exact Z1; exact rfl; exact Z2; exact Z2; exact Z2; (focus (exact ty_row208)); exact Z1; (focus (intro v hv; simp at hv; first | (subst hv; rfl) | (rcases hv with rfl | rfl <;> rfl))); (focus (simp only [List.length_map, List.length_cons, List.length_nil]; exact hll)); (focus (simp)); (intro v' h' hB' ho' hX'; have hcc' := hB'.blt.cells; have htt' := hB'.blt.tup; simp only [AV.cells] at hcc'; simp only [isTuple] at htt'; simp only [pM, pN])) | refine go1 ?_ | (apply U6; exact Z1; exact Z1; (focus (simp only [List.nil_append, List.append_nil]; first | exact k181a _ | exact k181b _ | exact k181c _)); simp only [pM, pN, rR, rP]) | refine go2 (fun hh => ?_) (fun hh => ?_) | fail)
       have hjn := K182 (X := dX cXH) rfl (a := v') (xs := L ++ [endL cc]) (h := h') (by rw [hB'.blt.elems, HEND.out]; simp) (by rw [List.length_append]; have := HLN.out; simp [maxL]; omega) (by have := HJL.out; have := HLN.out; unfold maxL; omega)
       have hjl : (Lib.join (L ++ [endL cc]) [10]).length + 1 ≤ 4294967296 := by have := HJL.out; have := HLN.out; omega
       rw [HTX.out]
       generalize Lib.join (L ++ [endL cc]) [10] = jn at *
       repeat' (first | (apply WO1.sadd; exact Z1; exact Z1; exact rfl; (focus (simp only [List.length_append, List.length_cons, List.length_nil]; omega)); simp only [pM, pN]) | refine go1 ?_ | (apply U6; exact Z1; exact Z1; (focus (simp only [List.nil_append, List.append_nil]; first | exact hjn)); simp only [pM, pN, rR, rP]) | refine go2 (fun hh => ?_) (fun hh => ?_) | fail)
       all_goals (simp only [resV_def (X := dX cXH) Tryz.func140, Tryz.results140]; first | exact J5 | refine J6 ?_)
   ·cases h
  ·cases h
 ·cases h
theorem F140 (hT : TabK Tryz.prog) : IntrFn Tryz.prog 140 (flatFnD sp140) := flatD_fn (X := dX cXH) (cXH_sound hT) p140 R140
theorem K140 {X : Ctx} (hX : X.intr 140 = some (flatFnD sp140)) {sa ra : AV} {m : Mc} {h : Heap} (hl : SeeV h ptC sa m.st) (hr : SeeV h rdgC ra m.rs) (hok : okM m = true) :
  Cl X 140 [.agg [sa, .int .i64 m.cx.lo, .int .i64 m.cx.hi, .int .i64 m.cy.lo, .int .i64 m.cy.hi, .int .i64 m.wx.lo, .int .i64 m.wx.hi, .int .i64 m.wy.lo, .int .i64 m.wy.hi, ra]] h (.ret (.str (textM m)) h none) := by
 obtain ⟨sa', v1, s1⟩ := hl
 obtain ⟨ra', v2, s2⟩ := hr
 exact Cl.intr hX (by simp only [flatFnD, viewDs, viewD_mach v1 v2, sp140, s1, s2, hok, if_true])
end Go.AM
namespace Go.AM
open Go Go.Proofs
variable [Keep]
attribute [local irreducible] W WO WO1 WD WQ WT thenQ blockQ endR isRet retK Cl ClR
noncomputable def cXI : Itr
 | 143 => some (pureFn sp180)
 | 144 => some (pureFn sp144)
 | _ => none
theorem cXI_sound (hT : TabK Tryz.prog) : Sound (dX cXI) := dX_sound (fun f g h => by
 unfold cXI at h
 split at h
 ·cases h; exact F143 hT
 ·cases h; exact F144
 ·cases h)
def flatT (L : List (List UInt8)) : List UInt8 := L.flatMap fun l => l ++ [10]
theorem flatT_nil : flatT [] = [] := rfl
theorem flatT_next {L : List (List UInt8)} {k : Nat} {l : List UInt8} (h : L[k]? = some l) : flatT (L.take (k + 1)) = flatT (L.take k) ++ l ++ [10] := by
 unfold flatT
 rw [take_next h, List.flatMap_append]
 simp
theorem flatT_len {L : List (List UInt8)} (hl : ∀ l ∈ L, l.length ≤ 100) : (flatT L).length ≤ 101 * L.length := by
 induction L with
 | nil => simp [flatT]
 | cons a L ih =>
  have h1 := ih (fun l h => hl l (List.mem_cons_of_mem _ h))
  have h2 := hl a (List.mem_cons_self ..)
  simp only [flatT, List.flatMap_cons, List.length_append, List.length_cons, List.length_nil] at h1 ⊢
  omega
theorem flatT_take {L : List (List UInt8)} (hl : ∀ l ∈ L, l.length ≤ 100) (hn : L.length ≤ 503) (k : Nat) : (flatT (L.take k)).length ≤ 60000 := by
 have h1 := flatT_len (L := L.take k) (fun l h => hl l (List.mem_of_mem_take h))
 have h2 : (L.take k).length ≤ 503 := by rw [List.length_take]; omega
 omega
theorem text_flat (m : Mc) : textM m = flatT (linesM m) ++ endL (ck 0 (linesM m) % 127) ++ [10] := by
 unfold textM allL flatT
 simp
theorem K143g {X : Ctx} (hX : X.intr 143 = some (pureFn sp180)) (w : List UInt8) (ns : List Int) (hn : ns.all smallI = true) (hw : w.length ≤ 1000) (hl : ns.length ≤ 10) (h : Heap) : Cl X 143 [.str w, .vslice (ns.map (AV.int .i64))] h (.ret (.str (lineT w ns)) h none) :=
 K143 hX w _ ns (by
  have := decL_map intC ns
  unfold slV
  simp only
  rw [if_pos (by rw [List.length_map]; unfold maxL; omega)]
  exact this) hn hw h
attribute [local irreducible] textM linesM lineT ck ck1 flatT
set_option maxHeartbeats 4000000 in
theorem R84 : ∀ args v, sp140 args = some v → ClR (dX cXI) 84 args emptyHp (isRet v) := by
 intro args v h
 unfold sp140 at h
 split at h
 ·rename_i sa cxl cxh cyl cyh wxl wxh wyl wyh ra
  split at h
  ·rename_i st rs hl hr
   split at h
   ·rename_i hok
    have h := Option.some.inj h
    subst h
    generalize hmm : (⟨st, ⟨cxl, cxh⟩, ⟨cyl, cyh⟩, ⟨wxl, wxh⟩, ⟨wyl, wyh⟩, rs⟩ : Mc) = m at *
    obtain ⟨rfl, rfl⟩ : st = m.st ∧ rs = m.rs := by rw [← hmm]; exact ⟨rfl, rfl⟩
    unfold okM at hok
    simp only [Bool.and_eq_true, decide_eq_true_eq] at hok
    obtain ⟨hsm, hcnt⟩ := hok
    have l1 := sl_len hl
    have o1 := sl_out hl
    have l2 := sl_len hr
    have o2 := sl_out hr
    obtain ⟨n1, t1⟩ := sl_one hl
    obtain ⟨n2, t2⟩ := sl_one hr
    have k143m := fun h => K143g (X := dX cXI) rfl wMach [(m.st.length : Int), (m.rs.length : Int)] (by simp [smallI]; omega) (by decide) (by simp) h
    have hsc := smallI_of (sm_c hsm)
    have hsw := smallI_of (sm_w hsm)
    have k143c := fun h => K143g (X := dX cXI) rfl wChuck [m.cx.lo, m.cx.hi, m.cy.lo, m.cy.hi] hsc (by decide) (by simp) h
    have k143w := fun h => K143g (X := dX cXI) rfl wWear [m.wx.lo, m.wx.hi, m.wy.lo, m.wy.hi] hsw (by decide) (by simp) h
    have e1 : lineT wMach [(m.st.length : Int), (m.rs.length : Int)] = hdLine m := rfl
    have e2 : lineT wChuck [m.cx.lo, m.cx.hi, m.cy.lo, m.cy.hi] = chuckL m := rfl
    have e3 : lineT wWear [m.wx.lo, m.wx.hi, m.wy.lo, m.wy.hi] = wearL m := rfl
    rw [e1] at k143m
    rw [e2] at k143c
    rw [e3] at k143w
    have ecl : cxl = m.cx.lo ∧ cxh = m.cx.hi ∧ cyl = m.cy.lo ∧ cyh = m.cy.hi ∧ wxl = m.wx.lo ∧ wxh = m.wx.hi ∧ wyl = m.wy.lo ∧ wyh = m.wy.hi := by rw [← hmm]; simp
    obtain ⟨rfl, rfl, rfl, rfl, rfl, rfl, rfl, rfl⟩ := ecl
    have hd2 : ∀ l ∈ linesM m, l.length ≤ 100 := lines_100
    have hd3 := lines_cnt m
    have hhl := hd2 (hdLine m) (by simp [linesM])
    simp only [List.map_cons, List.map_nil, wMach, wChuck, wWear] at k143m k143c k143w
    have HSM := Lib.hid hsm
    have HL := Lib.hid hl
    have HR := Lib.hid hr
    have HD2 := Lib.hid hd2
    have HD3 := Lib.hid hd3
    have HCN := Lib.hid hcnt
    clear hsm hl hr hmm hsc hsw e1 e2 e3 hd2 hd3 hcnt hhl
    refine ClR.walk (c := _) rfl Tryz.func84 rfl (by kernel_rfl) rfl isRet_fail ?_
    simp only [entryEnv, Nat.reduceAdd, emptyHp]
    repeat' (first | (apply WO1.rowB (e := 9) (sz := 1); exact Z2; exact Z2; exact Z1; exact rfl; simp only [pM, pN, List.length_cons, List.length_nil]) | refine go1 ?_ | (apply U6; exact Z1; exact Z1; (focus (simp only [List.nil_append, List.append_nil]; first | exact k143m _)); simp only [pM, pN, rR, rP]) | refine go2 (fun hh => ?_) (fun hh => ?_) | fail)
    clear k143m
    refine W.loopN m.st.length (fun k F => ∃ e lm hp u, F = Fr.mk 84 false e lm hp [] none ∧ BltN 0 hp u 1 ((hdLine m :: (m.st.take k).map stopL).map AV.str) ∧
     lm.get 1 = some (0, [sa, .int .i64 m.cx.lo, .int .i64 m.cx.hi, .int .i64 m.cy.lo, .int .i64 m.cy.hi, .int .i64 m.wx.lo, .int .i64 m.wx.hi, .int .i64 m.wy.lo, .int .i64 m.wy.hi, ra]) ∧ e.get 1 = some (.lptr 1 0 0) ∧ e.get 3 = some u ∧ e.get 4 = some (.int .i64 ↑k) ∧ k ≤ m.st.length) ?_ ?_
    ·refine ⟨_, _, _, _, rfl, .inr ⟨0, rfl, ?_, Nat.le_refl _, ?_, by simp⟩, ?_, ?_, ?_, ?_, Nat.zero_le _⟩
     all_goals first | exact Z2 | simp [go_sem, *]
    rintro k F ⟨e, lm, hp, u, rfl, hB, g1, h1, h3, h4, hk⟩
    have hbo := hB.blt.out
    by_cases hlt : k < m.st.length
    ·obtain ⟨p, hp'⟩ := get_some hlt
     have hix := fun H => pts_idx HL.out hp' H
     have hd : decide ((k : Int) < (m.st.length : Int)) = true := by simpa using hlt
     have hw := wrap_succ hlt (by have := HCN.out; unfold maxL; omega)
     have hsp := smallI_of (sm_st HSM.out (List.mem_of_getElem? hp'))
     have k143s := fun h => K143g (X := dX cXI) rfl wStop [p.x, p.y] hsp (by decide) (by simp) h
     have e1 : lineT wStop [p.x, p.y] = stopL p := rfl
     rw [e1] at k143s
     simp only [List.map_cons, List.map_nil, wStop] at k143s
     have hnx := lines_st hp'
     have hll : ((hdLine m :: (m.st.take k).map stopL).map AV.str).length + 1 ≤ most := by
      simp only [List.length_map, List.length_cons, List.length_take]
      have := HCN.out
      unfold most
      omega
     have HNX := Lib.hid hnx
     have HLT := Lib.hid hlt
     clear hp' hsp e1 hnx hlt
     generalize (hdLine m :: (m.st.take k).map stopL).map AV.str = ls at *
     repeat' (first | (apply W.drawQ (id := 5) (l1 := [0, 1, 2, 3, 4, 5, 6, 7, 8, 9, 10, 11, 12, 13, 14, 15]) (l2 := [16, 17]); kernel_rfl; kernel_rfl; kernel_rfl; exact Z4) | (apply WO1.appendN (t := 208) (u := 208) (e := 9) (e' := 9) (sz := 1) (tl := []) (b := 0) (h0 := ⟨0, .nil⟩) (hb := hB) (hx := ⟨Nat.zero_le _, fun id h => absurd h (Nat.not_lt_zero id)⟩); exact Z1; exact rfl; exact Z2; exact Z2; exact Z2; (focus (exact ty_row208)); exact Z1; (focus (intro v hv; simp at hv; first | (subst hv; rfl) | (rcases hv with rfl | rfl <;> rfl))); (focus (simp only [List.length_map, List.length_cons, List.length_nil]; exact hll)); (focus (simp)); (intro v' h' hB' ho' hX'; have hcc' := hB'.blt.cells; have htt' := hB'.blt.tup; simp only [AV.cells] at hcc'; simp only [isTuple] at htt'; simp only [pM, pN])) | refine go1 ?_ | (apply U6; exact Z1; exact Z1; (focus (simp only [List.nil_append, List.append_nil]; first | exact k143s _)); simp only [pM, pN, rR, rP]) | refine go2 (fun hh => ?_) (fun hh => ?_) | fail)
     refine ⟨HLT.out, _, _, _, v', rfl, ?_, ?_, ?_, ?_, ?_, HLT.out⟩
     ·rw [HNX.out]; exact hB'
     all_goals exact Z2
    ·have hd : decide ((k : Int) < (m.st.length : Int)) = false := by simpa using hlt
     have hkl : m.st.take k = m.st := List.take_of_length_le (by omega)
     rw [hkl] at hB
     have hll : ((hdLine m :: m.st.map stopL).map AV.str).length + 1 ≤ most := by
      simp only [List.length_map, List.length_cons]
      have := HCN.out
      unfold most
      omega
     have hll2 : ((hdLine m :: m.st.map stopL).map AV.str).length + 1 + 1 ≤ most := by
      simp only [List.length_map, List.length_cons]
      have := HCN.out
      unfold most
      omega
     have HCW := Lib.hid (lines_cw m)
     clear hkl hlt hk
     generalize (hdLine m :: m.st.map stopL).map AV.str = ls at *
     repeat' (first | (apply WO1.appendN (t := 208) (u := 208) (e := 9) (e' := 9) (sz := 1) (tl := []) (b := 0) (h0 := ⟨0, .nil⟩) (hb := hB) (hx := ⟨Nat.zero_le _, fun id h => absurd h (Nat.not_lt_zero id)⟩); exact Z1; exact rfl; exact Z2; exact Z2; exact Z2; (focus (exact ty_row208)); exact Z1; (focus (intro v hv; simp at hv; first | (subst hv; rfl) | (rcases hv with rfl | rfl <;> rfl))); (focus (simp only [List.length_map, List.length_cons, List.length_nil]; exact hll)); (focus (simp)); (intro v' h' hB' ho' hX'; have hcc' := hB'.blt.cells; have htt' := hB'.blt.tup; simp only [AV.cells] at hcc'; simp only [isTuple] at htt'; simp only [pM, pN])) | (apply WO1.appendN (t := 208) (u := 208) (e := 9) (e' := 9) (sz := 1) (tl := []) (b := 0) (h0 := ⟨0, .nil⟩) (hb := hB') (hx := ⟨Nat.zero_le _, fun id h => absurd h (Nat.not_lt_zero id)⟩); exact Z1; exact rfl; exact Z2; exact Z2; exact Z2; (focus (exact ty_row208)); exact Z1; (focus (intro v hv; simp at hv; first | (subst hv; rfl) | (rcases hv with rfl | rfl <;> rfl))); (focus (simp only [List.length_append, List.length_cons, List.length_nil]; exact hll2)); (focus (simp)); (intro v' h' hB' ho' hX'; have hcc' := hB'.blt.cells; have htt' := hB'.blt.tup; simp only [AV.cells] at hcc'; simp only [isTuple] at htt'; simp only [pM, pN])) | refine go1 ?_ | (apply U6; exact Z1; exact Z1; (focus (simp only [List.nil_append, List.append_nil]; first | exact k143c _ | exact k143w _)); simp only [pM, pN, rR, rP]) | refine go2 (fun hh => ?_) (fun hh => ?_) | fail)
     rw [List.append_assoc, List.singleton_append, ← HCW.out] at hB'
     clear hB k143c k143w hll hll2 hd
     refine W.loopN m.rs.length (fun k F => ∃ e lm hp u, F = Fr.mk 84 false e lm hp [] none ∧ BltN 0 hp u 1 ((lines2 m k).map AV.str) ∧
      lm.get 1 = some (0, [sa, .int .i64 m.cx.lo, .int .i64 m.cx.hi, .int .i64 m.cy.lo, .int .i64 m.cy.hi, .int .i64 m.wx.lo, .int .i64 m.wx.hi, .int .i64 m.wy.lo, .int .i64 m.wy.hi, ra]) ∧ e.get 1 = some (.lptr 1 0 0) ∧ e.get 3 = some u ∧ e.get 5 = some (.int .i64 ↑k) ∧ k ≤ m.rs.length) ?_ ?_
     ·refine ⟨_, _, _, _, rfl, hB', ?_, ?_, ?_, ?_, Nat.zero_le _⟩
      all_goals first | exact Z2 | simp [go_sem, *]
     clear g1 h1 h3 h4 hbo ho' hX' hcc' htt' hB'
     rintro k F ⟨e, lm, hp, u, rfl, hB, g1, h1, h3, h5, hk⟩
     have hbo := hB.blt.out
     by_cases hlt : k < m.rs.length
     ·obtain ⟨p, hp'⟩ := get_some hlt
      have hix := fun H => rdg_idx HR.out hp' H
      have hd : decide ((k : Int) < (m.rs.length : Int)) = true := by simpa using hlt
      have hw := wrap_succ hlt (by have := HCN.out; unfold maxL; omega)
      have hsp := smallI_of (sm_rs HSM.out (List.mem_of_getElem? hp'))
      have k143r := fun h => K143g (X := dX cXI) rfl wRead [p.b, p.x, p.y, p.err] hsp (by decide) (by simp) h
      have e1 : lineT wRead [p.b, p.x, p.y, p.err] = readL p := rfl
      rw [e1] at k143r
      simp only [List.map_cons, List.map_nil, wRead] at k143r
      have hnx := lines_rs hp'
      have hll : ((lines2 m k).map AV.str).length + 1 ≤ most := by
       simp only [lines2, List.length_map, List.length_cons, List.length_append, List.length_take]
       have := HCN.out
       unfold most
       omega
      have HNX := Lib.hid hnx
      have HLT := Lib.hid hlt
      clear hp' hsp e1 hnx hlt
      generalize (lines2 m k).map AV.str = ls at *
      repeat' (first | (apply WO1.appendN (t := 208) (u := 208) (e := 9) (e' := 9) (sz := 1) (tl := []) (b := 0) (h0 := ⟨0, .nil⟩) (hb := hB) (hx := ⟨Nat.zero_le _, fun id h => absurd h (Nat.not_lt_zero id)⟩); exact Z1; exact rfl; exact Z2; exact Z2; exact Z2; (focus (exact ty_row208)); exact Z1; (focus (intro v hv; simp at hv; first | (subst hv; rfl) | (rcases hv with rfl | rfl <;> rfl))); (focus (simp only [List.length_map, List.length_cons, List.length_nil]; exact hll)); (focus (simp)); (intro v' h' hB' ho' hX'; have hcc' := hB'.blt.cells; have htt' := hB'.blt.tup; simp only [AV.cells] at hcc'; simp only [isTuple] at htt'; simp only [pM, pN])) | refine go1 ?_ | (apply U6; exact Z1; exact Z1; (focus (simp only [List.nil_append, List.append_nil]; first | exact k143r _)); simp only [pM, pN, rR, rP]) | refine go2 (fun hh => ?_) (fun hh => ?_) | fail)
      refine ⟨HLT.out, _, _, _, v', rfl, ?_, ?_, ?_, ?_, ?_, HLT.out⟩
      ·rw [HNX.out]; exact hB'
      all_goals exact Z2
     ·have hd : decide ((k : Int) < (m.rs.length : Int)) = false := by simpa using hlt
      obtain rfl : k = m.rs.length := by omega
      rw [lines2_all] at hB
      have hlu := hB.blt.len
      rw [List.length_map] at hlu
      have htx := text_flat m
      have HTX := Lib.hid htx
      clear htx hk hlt
      generalize linesM m = L at *
      have hLn : L.length ≤ 503 := by have := HD3.out; have := HCN.out; omega
      repeat' (first | refine goS ?_ | refine go2 (fun hh => ?_) (fun hh => ?_) | fail)
      refine W.loopN L.length (fun k F => ∃ e lm, F = Fr.mk 84 false e lm hp [] none ∧ e.get 7 = some (.str (flatT (L.take k))) ∧ e.get 8 = some (.int .i64 ↑(ck 0 (L.take k))) ∧ e.get 3 = some u ∧ e.get 9 = some (.int .i64 ↑k) ∧ k ≤ L.length) ?_ ?_
      ·refine ⟨_, _, rfl, ?_, ?_, ?_, ?_, Nat.zero_le _⟩
       all_goals first | exact Z2 | simp [ck, flatT_nil, go_sem, *, Nat.reduceLT, Int.reduceEq, Int.reduceBEq, Int.reduceLE, Int.reduceLT, Nat.reduceAdd, Nat.reduceBEq, Nat.reduceEqDiff, reduceIte, Nat.reduceLeDiff, Nat.reduceMul, Nat.reduceSub, reduceCtorEq]
      clear g1 h1 h3 h5 hd
      rintro k F ⟨e, lm, rfl, h7, h8, h3, h9, hk⟩
      by_cases hlt : k < L.length
      ·obtain ⟨l, hl'⟩ := get_some hlt
       obtain ⟨id, hia, hgi, hgl⟩ := row_str hB hl'
       have hd : decide ((k : Int) < (L.length : Int)) = true := by simpa using hlt
       have hw := wrap_succ hlt (by unfold maxL; omega)
       have hll := HD2.out l (List.mem_of_getElem? hl')
       have hck := ck_next hl'
       have hft := flatT_next hl'
       have hb1 := ck_take_le HD2.out (by omega) k
       have hb0 := flatT_take HD2.out hLn k
       have HCK := Lib.hid hck
       have HFT := Lib.hid hft
       have HLT := Lib.hid hlt
       have HB0 := Lib.hid hB
       clear hl' hck hft hlt hB
       generalize ck 0 (L.take (k + 1)) = c1 at *
       generalize ck 0 (L.take k) = c0 at *
       generalize flatT (L.take (k + 1)) = f1 at *
       generalize flatT (L.take k) = f0 at *
       repeat' (first | refine goS ?_ | refine go2 (fun hh => ?_) (fun hh => ?_) | fail)
       refine W.loopN l.length (fun j F => ∃ e lm, F = Fr.mk 84 false e lm hp [] none ∧ e.get 8 = some (.int .i64 ↑(c0 + ck1 k 0 (l.take j))) ∧ e.get 7 = some (.str f0) ∧ e.get 9 = some (.int .i64 ↑k) ∧ e.get 3 = some u ∧ e.get 10 = some (.int .i64 ↑j) ∧ j ≤ l.length) ?_ ?_
       ·refine ⟨_, _, rfl, ?_, ?_, ?_, ?_, ?_, Nat.zero_le _⟩
        all_goals first | exact Z2 | simp [ck1, go_sem, *, Nat.reduceLT, Int.reduceEq, Int.reduceBEq, Int.reduceLE, Int.reduceLT, Nat.reduceAdd, Nat.reduceBEq, Nat.reduceEqDiff, reduceIte, Nat.reduceLeDiff, Nat.reduceMul, Nat.reduceSub, reduceCtorEq]
       clear h7 h8 h3 h9 hd
       rintro j F ⟨e, lm, rfl, h8, h7, h9, h3, h10, hj⟩
       by_cases hjt : j < l.length
       ·obtain ⟨b, hb'⟩ := get_some hjt
        have hd : decide ((j : Int) < (l.length : Int)) = true := by simpa using hjt
        have hwj := wrap_succ hjt (by unfold maxL; omega)
        have hij := idx_j hjt
        have hbt := b.toNat_lt
        have hn1 := ck1_next k hb'
        have hb2 := ck1_take_le hll (show k ≤ 600 by have := HLT.out; omega) j
        have hb3 := ck1_take_le hll (show k ≤ 600 by have := HLT.out; omega) (j + 1)
        have hm1 : b.toNat * (j + 1) ≤ 255 * 100 := Nat.mul_le_mul (by omega) (by omega)
        have w1 : IntKind.i64.wrap ((b.toNat : Nat) : Int) = ((b.toNat : Nat) : Int) := wrap_small (by omega) (by omega)
        have w3 : IntKind.i64.wrap (((b.toNat : Nat) : Int) * ((j + 1 : Nat) : Int)) = ((b.toNat * (j + 1) : Nat) : Int) := by
         rw [← Int.natCast_mul, wrap_small (by omega) (by omega)]
        have hm2 : b.toNat * (j + 1) * (k + 1) ≤ 255 * 100 * 601 := Nat.mul_le_mul hm1 (by have := HLT.out; omega)
        have w5 : IntKind.i64.wrap (((b.toNat * (j + 1) : Nat) : Int) * ((k + 1 : Nat) : Int)) = ((b.toNat * (j + 1) * (k + 1) : Nat) : Int) := by
         rw [← Int.natCast_mul, wrap_small (by omega) (by omega)]
        have w6 : IntKind.i64.wrap (((c0 + ck1 k 0 (l.take j) : Nat) : Int) + ((b.toNat * (j + 1) * (k + 1) : Nat) : Int)) = ((c0 + ck1 k 0 (l.take (j + 1)) : Nat) : Int) := by
         rw [hn1] at hb3 ⊢
         rw [← Int.natCast_add, wrap_small (by omega) (by omega), Nat.add_assoc]
        have HJT := Lib.hid hjt
        clear hbt hn1 hb2 hb3 hm1 hm2 hjt
        generalize ((c0 + ck1 k 0 (l.take (j + 1)) : Nat) : Int) = y1 at *
        generalize ((c0 + ck1 k 0 (l.take j) : Nat) : Int) = y0 at *
        generalize ((b.toNat * (j + 1) * (k + 1) : Nat) : Int) = y2 at *
        generalize ((b.toNat * (j + 1) : Nat) : Int) = y3 at *
        repeat' (first | refine goS ?_ | refine go2 (fun hh => ?_) (fun hh => ?_) | fail)
        refine ⟨HJT.out, _, _, rfl, ?_, ?_, ?_, ?_, ?_, HJT.out⟩
        all_goals exact Z2
       ·have hd : decide ((j : Int) < (l.length : Int)) = false := by simpa using hjt
        have hjl : l.take j = l := List.take_of_length_le (by omega)
        rw [hjl] at h8
        have hc1 : c0 + ck1 k 0 l = c1 := HCK.out.symm
        rw [hc1] at h8
        clear hjl hc1 hjt
        repeat' (first | (apply WO1.sadd; exact Z1; exact Z1; exact rfl; (focus (first | omega | (simp only [List.length_append, List.length_cons, List.length_nil]; omega))); simp only [pM, pN]) | refine go1 ?_ | refine go2 (fun hh => ?_) (fun hh => ?_) | fail)
        refine ⟨HLT.out, _, _, rfl, ?_, ?_, ?_, ?_, HLT.out⟩
        ·rw [HFT.out]; simp only [go_sem, *, Nat.reduceLT, Int.reduceEq, Int.reduceBEq, Int.reduceLE, Int.reduceLT, Nat.reduceAdd, Nat.reduceBEq, Nat.reduceEqDiff, reduceIte, Nat.reduceLeDiff, Nat.reduceMul, Nat.reduceSub, reduceCtorEq]
        all_goals exact Z2
      ·have hd : decide ((k : Int) < (L.length : Int)) = false := by simpa using hlt
       have hkl : L.take k = L := List.take_of_length_le (by omega)
       rw [hkl] at h8 h7
       have hcb := ck_take_le HD2.out (by omega) L.length
       rw [List.take_length] at hcb
       have hfl := flatT_take HD2.out hLn L.length
       rw [List.take_length] at hfl
       have b127 : ((127 : Int) == 0) = false := rfl
       have b100 : ((100 : Int) == 0) = false := rfl
       have b10 : ((10 : Int) == 0) = false := rfl
       generalize hcc : ck 0 L % 127 = cc at *
       have hc7 : cc < 127 := by rw [← hcc]; exact Nat.mod_lt _ (by decide)
       have m1 : ((ck 0 L : Nat) : Int).tmod 127 = (cc : Int) := by rw [Int.tmod_eq_emod_of_nonneg (by omega)]; omega
       have m2 : ((cc : Nat) : Int).tdiv 100 = ((cc / 100 : Nat) : Int) := by rw [Int.tdiv_eq_ediv_of_nonneg (by omega)]; omega
       have m3 : ((cc : Nat) : Int).tdiv 10 = ((cc / 10 : Nat) : Int) := by rw [Int.tdiv_eq_ediv_of_nonneg (by omega)]; omega
       have m4 : ((cc / 10 : Nat) : Int).tmod 10 = ((cc / 10 % 10 : Nat) : Int) := by rw [Int.tmod_eq_emod_of_nonneg (by omega)]; omega
       have m5 : ((cc : Nat) : Int).tmod 10 = ((cc % 10 : Nat) : Int) := by rw [Int.tmod_eq_emod_of_nonneg (by omega)]; omega
       have m6 : IntKind.i64.wrap ((cc / 100 : Nat) : Int) = ((cc / 100 : Nat) : Int) := wrap_small (by omega) (by omega)
       have m7 : IntKind.i64.wrap ((cc / 10 : Nat) : Int) = ((cc / 10 : Nat) : Int) := wrap_small (by omega) (by omega)
       have hsI : ∀ x : Nat, x < 127 → smallI (x : Int) = true := fun x hx => by unfold smallI; simp; omega
       have k144a := fun h => K144 (X := dX cXI) rfl ((cc / 100 : Nat) : Int) (hsI _ (by omega)) h
       have k144b := fun h => K144 (X := dX cXI) rfl ((cc / 10 % 10 : Nat) : Int) (hsI _ (by omega)) h
       have k144c := fun h => K144 (X := dX cXI) rfl ((cc % 10 : Nat) : Int) (hsI _ (by omega)) h
       have i1 := itoa_len ((cc / 100 : Nat) : Int)
       have i2 := itoa_len ((cc / 10 % 10 : Nat) : Int)
       have i3 := itoa_len ((cc % 10 : Nat) : Int)
       have hend : endL cc = [101, 110, 100, 32] ++ itoaF ((cc / 100 : Nat) : Int) ++ itoaF ((cc / 10 % 10 : Nat) : Int) ++ itoaF ((cc % 10 : Nat) : Int) := rfl
       have HEND := Lib.hid hend
       have hsI := 0
       clear hend hlt hkl hk hcb hcc hc7 hLn hsI
       generalize itoaF ((cc / 100 : Nat) : Int) = t1' at *
       generalize itoaF ((cc / 10 % 10 : Nat) : Int) = t2' at *
       generalize itoaF ((cc % 10 : Nat) : Int) = t3' at *
       generalize ((cc / 100 : Nat) : Int) = c100 at *
       generalize ((cc / 10 % 10 : Nat) : Int) = c10 at *
       generalize ((cc / 10 : Nat) : Int) = c11 at *
       generalize ((cc % 10 : Nat) : Int) = c12 at *
       generalize ((cc : Nat) : Int) = cI at *
       generalize ((ck 0 L : Nat) : Int) = cL at *
       rw [HTX.out, HEND.out]
       generalize flatT L = fl at *
       repeat' (first | (apply WO1.sadd; exact Z1; exact Z1; exact rfl; (focus (first | omega | (simp only [List.length_append, List.length_cons, List.length_nil]; omega))); simp only [pM, pN]) | refine go1 ?_ | (apply U6; exact Z1; exact Z1; (focus (simp only [List.nil_append, List.append_nil]; first | exact k144a _ | exact k144b _ | exact k144c _)); simp only [pM, pN, rR, rP]) | refine go2 (fun hh => ?_) (fun hh => ?_) | fail)
       all_goals (simp only [resV_def (X := dX cXI) Tryz.func84, Tryz.results84]; first | exact J5 | refine J6 ?_)
       all_goals simp [List.append_assoc]
   ·cases h
  ·cases h
 ·cases h
theorem F84 (hT : TabK Tryz.prog) : IntrFn Tryz.prog 84 (flatFnD sp140) := flatD_fn (X := dX cXI) (cXI_sound hT) p140 R84
theorem K84 {X : Ctx} (hX : X.intr 84 = some (flatFnD sp140)) {sa ra : AV} {m : Mc} {h : Heap} (hl : SeeV h ptC sa m.st) (hr : SeeV h rdgC ra m.rs) (hok : okM m = true) :
  Cl X 84 [.agg [sa, .int .i64 m.cx.lo, .int .i64 m.cx.hi, .int .i64 m.cy.lo, .int .i64 m.cy.hi, .int .i64 m.wx.lo, .int .i64 m.wx.hi, .int .i64 m.wy.lo, .int .i64 m.wy.hi, ra]] h (.ret (.str (textM m)) h none) := by
 obtain ⟨sa', v1, s1⟩ := hl
 obtain ⟨ra', v2, s2⟩ := hr
 exact Cl.intr hX (by simp only [flatFnD, viewDs, viewD_mach v1 v2, sp140, s1, s2, hok, if_true])
end Go.AM
namespace Go.AM
open Go Go.Proofs
variable [Keep]
attribute [local irreducible] W WO WO1 WD WQ WT thenQ blockQ endR isRet retK Cl ClR
theorem cut9 {s : List UInt8} {a b : Nat} (hab : a ≤ b) (hb : b ≤ s.length) (H : Heap) : sliceV Tryz.prog H 9 (.str s) (some (some (.int .i64 ↑a))) (some (some (.int .i64 ↑b))) none = some (.str ((s.take b).drop a)) := by
 have b1 : boundV (some (some (.int .i64 (b : Int)))) s.length s.length = some b := by
  simp only [boundV]
  rw [if_pos (by omega)]
  simp
 have b2 : boundV (some (some (.int .i64 (a : Int)))) 0 b = some a := by
  simp only [boundV]
  rw [if_pos (by omega)]
  simp
 simp only [sliceV, Tryz.underlying9, strCut, boundsV, b1, b2]
theorem cut9b {s : List UInt8} {a : Nat} (ha : a ≤ s.length) (H : Heap) : sliceV Tryz.prog H 9 (.str s) (some (some (.int .i64 ↑a))) none none = some (.str (s.drop a)) := by
 have b1 : boundV none s.length s.length = some s.length := by simp [boundV]
 have b2 : boundV (some (some (.int .i64 (a : Int)))) 0 s.length = some a := by
  simp only [boundV]
  rw [if_pos (by omega)]
  simp
 simp only [sliceV, Tryz.underlying9, strCut, boundsV, b1, b2, List.take_length]
structure Spt (c : UInt8) (s : List UInt8) (i f : Nat) (done : List (List UInt8)) : Prop where
 le : f ≤ i ∧ i ≤ s.length
 no : ∀ x ∈ (s.take i).drop f, x ≠ c
 is : spL c s = done ++ spL c (s.drop f)
theorem Spt.start (c : UInt8) (s : List UInt8) : Spt c s 0 0 [] := ⟨⟨Nat.le_refl _, Nat.zero_le _⟩, by simp, by simp⟩
theorem Spt.go {c : UInt8} {s : List UInt8} {i f : Nat} {done : List (List UInt8)} (h : Spt c s i f done) {b : UInt8} (hb : s[i]? = some b) (hc : b ≠ c) : Spt c s (i + 1) f done := by
 have hi : i < s.length := (List.getElem?_eq_some_iff.1 hb).1
 refine ⟨⟨by have := h.le; omega, by omega⟩, fun x hx => ?_, h.is⟩
 rw [take_next hb, List.drop_append_of_le_length (by rw [List.length_take]; have := h.le; omega)] at hx
 rcases List.mem_append.1 hx with hx | hx
 ·exact h.no x hx
 ·rcases List.mem_singleton.1 hx with rfl
  exact hc
theorem Spt.cut {c : UInt8} {s : List UInt8} {i f : Nat} {done : List (List UInt8)} (h : Spt c s i f done) (hb : s[i]? = some c) : Spt c s (i + 1) (i + 1) (done ++ [(s.take i).drop f]) := by
 have hi : i < s.length := (List.getElem?_eq_some_iff.1 hb).1
 have hle := h.le
 refine ⟨⟨Nat.le_refl _, by omega⟩, fun x hx => ?_, ?_⟩
 ·rw [List.drop_of_length_le (by rw [List.length_take]; omega)] at hx
  cases hx
 ·have e : s.drop f = (s.take i).drop f ++ c :: s.drop (i + 1) := by
   have e1 : s = s.take i ++ c :: s.drop (i + 1) := by
    have := List.getElem?_eq_some_iff.1 hb
    obtain ⟨h1, h2⟩ := this
    rw [← h2, ← List.drop_eq_getElem_cons h1, List.take_append_drop]
   have e2 : s.drop f = (s.take i ++ c :: s.drop (i + 1)).drop f := by rw [← e1]
   rw [e2, List.drop_append_of_le_length (by rw [List.length_take]; omega)]
  rw [h.is, e, spL_app _ h.no, List.append_assoc]
  rfl
theorem Spt.fin {c : UInt8} {s : List UInt8} {i f : Nat} {done : List (List UInt8)} (h : Spt c s i f done) (hi : i = s.length) : spL c s = done ++ [s.drop f] := by
 subst hi
 have := h.no
 rw [List.take_length] at this
 rw [h.is, spL_end this]
def sp145 : List AV → Option AV
 | [.str s, .int .u8 b] => if (decide (0 ≤ b) && decide (b < 256) && decide (s.length ≤ 1000)) = true then some (slN ((spL (UInt8.ofNat b.toNat) s).map AV.str)) else none
 | _ => none
theorem slN_strs (l : List (List UInt8)) : (slN (l.map AV.str)).pur = true := by
 have := (slN_is (l.map AV.str))
 cases l with
 | nil => rfl
 | cons a r =>
  show AV.purL _ = true
  rw [purL_mem]
  intro x hx
  obtain ⟨y, _, rfl⟩ := List.mem_map.1 hx
  rfl
theorem p145 : ∀ args v, sp145 args = some v → v.pur = true := by
 intro args v h
 unfold sp145 at h
 split at h
 ·split at h
  ·cases h; exact slN_strs _
  ·cases h
 ·cases h
set_option maxHeartbeats 2000000 in
theorem F145 : IntrFn Tryz.prog 145 (pureFn sp145) := by
 refine pure_fn (X := dX i0) i0_sound p145 ?_
 intro args v h
 unfold sp145 at h
 split at h
 ·rename_i s b0
  split at h
  ·rename_i hg
   have h := Option.some.inj h
   subst h
   simp only [Bool.and_eq_true, decide_eq_true_eq] at hg
   obtain ⟨⟨hb0, hb1⟩, hs⟩ := hg
   obtain ⟨c, rfl⟩ : ∃ c : UInt8, b0 = ((c.toNat : Nat) : Int) := ⟨UInt8.ofNat b0.toNat, by rw [UInt8.toNat_ofNat']; omega⟩
   have hcc : UInt8.ofNat ((c.toNat : Nat) : Int).toNat = c := by simp
   rw [hcc]
   clear hcc hb0 hb1
   refine ClR.walk (c := _) rfl Tryz.func145 rfl (by kernel_rfl) rfl isRet_fail ?_
   simp only [entryEnv, Nat.reduceAdd, emptyHp]
   repeat' (first | refine goS ?_ | refine go2 (fun hh => ?_) (fun hh => ?_) | fail)
   refine W.loopN s.length (fun k F => ∃ e hp u f done, F = Fr.mk 145 false e .nil hp [] none ∧ Blt hp u 1 (done.map AV.str) ∧ Spt c s k f done ∧ done.length ≤ k ∧ e.get 0 = some (.str s) ∧ e.get 1 = some (.int .u8 ↑c.toNat) ∧ e.get 5 = some u ∧ e.get 6 = some (.int .i64 ↑f) ∧ e.get 7 = some (.int .i64 ↑k)) ?_ ?_
   ·refine ⟨_, _, _, 0, [], rfl, Blt.nil, Spt.start c s, Nat.le_refl _, ?_, ?_, ?_, ?_, ?_⟩ <;> first | exact Z2 | simp [go_sem, *]
   rintro k F ⟨e, hp, u, f, done, rfl, hB, hS, hdl, h0, h1, h5, h6, h7⟩
   have hbo := hB.out
   have hle := hS.le
   have HS := Lib.hid hS
   have HDL := Lib.hid hdl
   clear hS hdl
   by_cases hlt : k < s.length
   ·obtain ⟨b, hb⟩ := get_some hlt
    have hij := idx_j hlt
    have hd : decide ((k : Int) < (s.length : Int)) = true := by simpa using hlt
    have hw := wrap_succ hlt (by unfold maxL; omega)
    have HB := Lib.hid hb
    have HLT := Lib.hid hlt
    clear hlt
    by_cases hbc : b = c
    ·have heq : (((b.toNat : Nat) : Int) == ((c.toNat : Nat) : Int)) = true := by rw [hbc]; exact beq_self_eq_true _
     have hct := cut9 (s := s) hle.1 hle.2
     have hll : done.length + 1 ≤ most := by have := HDL.out; unfold most; omega
     have hnx := HS.out.cut (by rw [HB.out, hbc])
     have HNX := Lib.hid hnx
     clear hnx hbc hle
     generalize (s.take k).drop f = p at *
     repeat' (first | (apply U4 (v := .str p); (focus (simp only [go_sem, *, Nat.reduceLT, Int.reduceEq, Int.reduceBEq, Int.reduceLE, Int.reduceLT, Nat.reduceAdd, Nat.reduceBEq, Nat.reduceEqDiff, reduceIte, Nat.reduceLeDiff, Nat.reduceMul, Nat.reduceSub, reduceCtorEq, Option.map_none, Option.map_some]; done)); exact rfl; simp only [pM, pN, rR, rP]) | (apply WO1.append (t := 208) (u := 208) (e := 9) (e' := 9) (sz := 1) (tl := []) (hb := hB); exact Z1; exact rfl; exact Z2; exact Z2; exact Z2; (focus (exact ty_row208)); exact Z1; (focus (intro v hv; simp at hv; subst hv; rfl)); (focus (simp only [List.length_map, List.length_cons, List.length_nil]; exact hll)); (focus (simp)); (intro v' h' hB' ho' hX'; have hcc' := hB'.cells; have htt' := hB'.tup; simp only [AV.cells] at hcc'; simp only [isTuple] at htt'; simp only [pM, pN])) | refine go1 ?_ | refine go2 (fun hh => ?_) (fun hh => ?_) | fail)
     refine ⟨HLT.out, _, _, v', k + 1, done ++ [p], rfl, ?_, HNX.out, ?_, ?_, ?_, ?_, ?_, ?_⟩
     ·rw [List.map_append]; exact hB'
     ·have := HDL.out; simp; omega
     all_goals exact Z2
    ·have heq : (((b.toNat : Nat) : Int) == ((c.toNat : Nat) : Int)) = false := by
      rw [beq_eq_false_iff_ne]
      intro q
      exact hbc (UInt8.toNat_inj.1 (by omega))
     have hnx := HS.out.go HB.out hbc
     have HNX := Lib.hid hnx
     clear hnx hbc hle
     repeat' (first | refine goS ?_ | refine go2 (fun hh => ?_) (fun hh => ?_) | fail)
     refine ⟨HLT.out, _, _, u, f, done, rfl, hB, HNX.out, by have := HDL.out; omega, ?_, ?_, ?_, ?_, ?_⟩
     all_goals exact Z2
   ·have hd : decide ((k : Int) < (s.length : Int)) = false := by simpa using hlt
    have hfi := HS.out.fin (by omega)
    have hct := cut9b (s := s) (a := f) (by omega)
    have hll : done.length + 1 ≤ most := by have := HDL.out; unfold most; omega
    have HFI := Lib.hid hfi
    clear hfi hlt hle
    generalize s.drop f = p at *
    repeat' (first | (apply U4 (v := .str p); (focus (simp only [go_sem, *, Nat.reduceLT, Int.reduceEq, Int.reduceBEq, Int.reduceLE, Int.reduceLT, Nat.reduceAdd, Nat.reduceBEq, Nat.reduceEqDiff, reduceIte, Nat.reduceLeDiff, Nat.reduceMul, Nat.reduceSub, reduceCtorEq, Option.map_none, Option.map_some]; done)); exact rfl; simp only [pM, pN, rR, rP]) | (apply WO1.append (t := 208) (u := 208) (e := 9) (e' := 9) (sz := 1) (tl := []) (hb := hB); exact Z1; exact rfl; exact Z2; exact Z2; exact Z2; (focus (exact ty_row208)); exact Z1; (focus (intro v hv; simp at hv; subst hv; rfl)); (focus (simp only [List.length_map, List.length_cons, List.length_nil]; exact hll)); (focus (simp)); (intro v' h' hB' ho' hX'; have hcc' := hB'.cells; have htt' := hB'.tup; simp only [AV.cells] at hcc'; simp only [isTuple] at htt'; simp only [pM, pN])) | refine go1 ?_ | refine go2 (fun hh => ?_) (fun hh => ?_) | fail)
    obtain ⟨h'', hz, hz2, hz1⟩ := hB'.freeze
    rw [HFI.out, List.map_append]
    all_goals (simp only [resV_def (X := dX i0) Tryz.func145, Tryz.results145]; first | exact J5 | refine J6 ?_)
    all_goals rfl
  ·cases h
 ·cases h
theorem K145 {X : Ctx} (hX : X.intr 145 = some (pureFn sp145)) (s : List UInt8) (c : UInt8) {n : Int} (hn : n = ((c.toNat : Nat) : Int)) (hs : s.length ≤ 1000) (h : Heap) : Cl X 145 [.str s, .int .u8 n] h (.ret (slN ((spL c s).map AV.str)) h none) := by
 subst hn
 have h1 := c.toNat_lt
 have : (decide (0 ≤ ((c.toNat : Nat) : Int)) && decide (((c.toNat : Nat) : Int) < 256) && decide (s.length ≤ 1000)) = true := by
  simp only [Bool.and_eq_true, decide_eq_true_eq]; omega
 have hcc : UInt8.ofNat ((c.toNat : Nat) : Int).toNat = c := by simp
 exact Cl.intr hX (by simp only [pureFn, AV.pur, AV.purL, Bool.and_self, if_true, sp145, this, hcc])
end Go.AM
