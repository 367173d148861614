/-
  A part of the proof: contracts of functions.
-/
import Derived.Test.YtlhcjccaimmhgaaGreatDoorUAR
import Derived.Test.YtlhcjccaimmhgaaGreatDoorUAQ
import Derived.Test.YtlhcjccaimmhgaaGreatDoorUAG
set_option linter.unusedSectionVars false
set_option linter.unusedVariables false
set_option linter.unusedSimpArgs false
set_option maxRecDepth 100000
namespace Go.AM
open Go Go.Proofs
variable [Keep]
attribute [local irreducible] W WO WO1 WD WQ WT thenQ blockQ endR isRet retK Cl ClR
attribute [local irreducible] isNew roundQ RdR boundsS machB boxL suitB posH clS clN
structure TgE (h : Heap) (pl pa pm ps : Nat) (la av : AV) (mc owns : List AV) (bss : List (List Bx)) : Prop where
 gl : h.get pl = some (.var [la])
 ga : h.get pa = some (.var [av])
 gm : h.get pm = some (.var mc)
 gs : h.get ps = some (.var [.func (.func 115) [] [.ptr pl 0, .ptr pa 0, .ptr pm 0, .ptr ps 0]])
 ll : pl < h.next ∧ pa < h.next ∧ pm < h.next ∧ ps < h.next
 ba : Blt h av 1 owns
 bo : ElemsC bxC 4 h owns bss
theorem TgE.ext {h h' : Heap} {pl pa pm ps : Nat} {la av : AV} {mc owns : List AV} {bss : List (List Bx)} (q : TgE h pl pa pm ps la av mc owns bss) (k : HExt h h') : TgE h' pl pa pm ps la av mc owns bss :=
 ⟨(k.2 _ q.ll.1).trans q.gl, (k.2 _ q.ll.2.1).trans q.ga, (k.2 _ q.ll.2.2.1).trans q.gm, (k.2 _ q.ll.2.2.2).trans q.gs, ⟨Nat.lt_of_lt_of_le q.ll.1 k.1, Nat.lt_of_lt_of_le q.ll.2.1 k.1, Nat.lt_of_lt_of_le q.ll.2.2.1 k.1, Nat.lt_of_lt_of_le q.ll.2.2.2 k.1⟩, q.ba.ext k, q.bo.ext k⟩
def ansV : Option (List Nat) → AV
 | none => .nilslice
 | some s => slN (natsV s)
def tgR (h : Heap) (nv : AV) (o : Option (List Nat)) (r : COut) : Prop := ∃ h', r = .ret (ansV o) h' none ∧ Keeps h h' nv
theorem tgR_fail {h : Heap} {nv : AV} {o : Option (List Nat)} : ¬ tgR h nv o .fail := by rintro ⟨_, e, _⟩; cases e
theorem tgR_ret {h h' : Heap} {nv v : AV} {o : Option (List Nat)} (e : v = ansV o) (k : Keeps h h' nv) : tgR h nv o (.ret v h' none) := ⟨h', by rw [e], k⟩
attribute [local irreducible] tgR
def prodL (l : List (List Bx)) : Nat := (l.map fun b => b.length + 1).foldr (· * ·) 1
theorem prodL_cons (b : List Bx) (r : List (List Bx)) : prodL (b :: r) = (b.length + 1) * prodL r := rfl
theorem prodL_pos : ∀ l : List (List Bx), 1 ≤ prodL l := by
 intro l
 induction l with
 | nil => exact Nat.le_refl _
 | cons b l ih =>
  rw [prodL_cons]
  have := Nat.mul_le_mul (show 1 ≤ b.length + 1 by omega) ih
  omega
theorem waysTo_len (pos : List Held → Bool) (n : Nat) (bs : List Bx) : ∀ ws : List (List Held), (waysTo pos n bs ws).length ≤ ws.length * bs.length := by
 intro ws
 induction ws with
 | nil => simp [waysTo]
 | cons w ws ih =>
  have e : waysTo pos n bs (w :: ws) = (bs.map fun y => w ++ [heldB n y]).filter pos ++ waysTo pos n bs ws := rfl
  rw [e, List.length_append, List.length_cons, Nat.succ_mul]
  have := List.length_filter_le pos (bs.map fun y => w ++ [heldB n y])
  rw [List.length_map] at this
  omega
theorem waysTo_next {pos : List Held → Bool} {n : Nat} {bs : List Bx} {ws : List (List Held)} {i : Nat} {w : List Held} (h : ws[i]? = some w) : waysTo pos n bs (ws.take (i + 1)) = waysTo pos n bs (ws.take i) ++ (bs.map fun y => w ++ [heldB n y]).filter pos := by
 unfold waysTo
 rw [take_next h, List.flatMap_append]
 simp
theorem filt_next {pos : List Held → Bool} {n : Nat} {bs : List Bx} {w : List Held} {j : Nat} {y : Bx} (h : bs[j]? = some y) : ((bs.take (j + 1)).map fun y => w ++ [heldB n y]).filter pos = ((bs.take j).map fun y => w ++ [heldB n y]).filter pos ++ (if pos (w ++ [heldB n y]) then [w ++ [heldB n y]] else []) := by
 rw [take_next h, List.map_append, List.filter_append]
 cases q : pos (w ++ [heldB n y]) <;> simp [q]
theorem hext_keeps {h hp hp2 : Heap} {u : AV} {sz : Nat} {vs : List AV} (x : HExt h hp) (b : BltN h.next hp u sz vs) (k : Keeps hp hp2 u) : HExt h hp2 := by
 refine ⟨Nat.le_trans x.1 k.1, fun id hid => ?_⟩
 rw [k.2 id (Nat.lt_of_lt_of_le hid x.1) fun o n e => ?_]
 ·exact x.2 id hid
 ·rcases b with ⟨q, _⟩ | ⟨i, q1, _, q3, _⟩
  ·rw [q] at e; cases e
  ·rw [q1] at e; cases e; omega
theorem bltN_row {b : Nat} {h : Heap} {v : AV} {sz k n : Nat} {l : List AV} (q : Blt h v sz l) (e : v = .row k 0 n) (hk : b ≤ k) : BltN b h v sz l := by
 rcases q with q | ⟨i, q1, q2, q3, q4⟩
 ·exact .inl q
 ·rw [q1] at e
  cases e
  exact .inr ⟨_, q1, q2, hk, q3, q4⟩
theorem wrap_nat {k m : Nat} (h : k < m) (hm : m ≤ 16777216) : IntKind.i64.wrap ((k : Int) + 1) = ((k + 1 : Nat) : Int) := by
 rw [wrap_small (by omega) (by omega)]
 simp
theorem neq39v (l : List AV) : binV Tryz.prog .neq 39 true (.vslice l) .nilslice = some (.bool true) := by
 simp [binV, eqOp, eqV, isSliceT, whenB, Tryz.underlying39]
theorem neq39n : binV Tryz.prog .neq 39 true .nilslice .nilslice = some (.bool false) := by
 simp [binV, eqOp, eqV, isSliceT, whenB, Tryz.underlying39]
def stpT (pos : List Held → Bool) (bs : List Bx) (r : List (List Bx)) (now : List Nat) (ws : List (List Held)) (i : Nat) : Option (List Nat) := if now.contains (i + 1) then none else if (waysTo pos (i + 1) bs ws).isEmpty then none else srchT pos r (now ++ [i + 1]) (waysTo pos (i + 1) bs ws)
theorem srchT_cons (pos : List Held → Bool) (bs : List Bx) (r : List (List Bx)) (now : List Nat) (ws : List (List Held)) : srchT pos (bs :: r) now ws = (List.range 12).findSome? (stpT pos bs r now ws) := rfl
theorem srchT_ne (pos : List Held → Bool) : ∀ (bss : List (List Bx)) (now : List Nat) (ws : List (List Held)) (s : List Nat), srchT pos bss now ws = some s → 1 ≤ now.length + bss.length → s ≠ [] := by
 intro bss
 induction bss with
 | nil =>
  intro now ws s h hn
  simp only [srchT, Option.some.injEq] at h
  subst h
  intro e
  subst e
  simp at hn
 | cons bs r ih =>
  intro now ws s h hn
  rw [srchT_cons] at h
  obtain ⟨i, _, h1, _⟩ := find_spec h
  unfold stpT at h1
  split at h1
  ·cases h1
  ·split at h1
   ·cases h1
   ·exact ih _ _ _ h1 (by simp; omega)
theorem blt_frz {h : Heap} {v : AV} {sz : Nat} {l : List AV} (b : Blt h v sz l) : ∃ h', freeze h v = some (slN l, h') ∧ Keeps h h' v := by
 obtain ⟨h', e, e1, e2⟩ := b.frz1
 obtain ⟨h'', f1, f2, f3⟩ := b.freeze
 rw [e] at f3
 have : h'' = h' := by simpa using (Prod.mk.inj (Option.some.inj f3)).2.symm
 subst this
 exact ⟨h'', f1, Nat.le_of_eq e1.symm, fun id _ hk => e2 id hk⟩
set_option maxHeartbeats 16000000 in
theorem C115 (c : Itr) (hc : c 115 = none) (hc103 : c 103 = some (onHeap h103)) (hc116 : c 116 = some (flatFn sp116)) (hc117 : c 117 = none) (hc118 : c 118 = none)
  (sa ra mv la av : AV) (cx cy wx wy : Sp) (rs : List Rdg) (hr : slV rdgC ra = some rs) (hso : sa.one = true) (hmo : mv.one = true) (hst : isTuple sa = false) (hmt : isTuple mv = false) (hsu : outV (some sa) = some sa) (hmu : outV (some mv) = some mv) (hrl : rs.length ≤ 1000) (L : Nat) (hL1 : 1 ≤ L) (hL : L ≤ 900) (hla : lenS la = some L) (hlo : outV (some la) = some la) (hlt0 : isTuple la = false)
  (pl pa pm ps : Nat) (owns : List AV) (bss0 : List (List Bx)) (hb0 : bss0.length = L) :
  ∀ (bss : List (List Bx)) (now : List Nat) (ws : List (List Held)) (nv wv : AV) (h : Heap), TgE h pl pa pm ps la av [sa, .int .i64 cx.lo, .int .i64 cx.hi, .int .i64 cy.lo, .int .i64 cy.hi, .int .i64 wx.lo, .int .i64 wx.hi, .int .i64 wy.lo, .int .i64 wy.hi, ra, mv] owns bss0 → NowR h nv now → RdW h wv ws → now.length + bss.length = L → bss0.drop now.length = bss → (∀ w ∈ ws, w.length = now.length) → ws.length * prodL bss ≤ 16000000 →
   ClR (dX c) 115 (([] ++ [nv, wv]) ++ [.ptr pl 0, .ptr pa 0, .ptr pm 0, .ptr ps 0]) h (tgR h nv (srchT (posH cx cy wx wy rs) bss now ws)) := by
 have hro := sl_out hr
 obtain ⟨hr1, hrt⟩ := sl_one hr
 simp only [isTuple] at hst hmt hlt0 hrt
 intro bss
 induction bss with
 | nil =>
  intro now ws nv wv h hE hN hW hsum _ _ _
  simp only [List.length_nil, Nat.add_zero] at hsum
  have o1 := hN.out
  have o2 := hW.out
  have l1 := hN.len
  have t1 := hN.tup
  simp only [isTuple] at t1
  have gl := hE.gl
  have hd : ((now.length : Int) == (L : Int)) = true := by simp; omega
  have hb : Blt h nv 1 (natsV now) := by
   rcases hN with ⟨_, e⟩ | b
   ·subst e; simp at hsum; omega
   ·exact b
  obtain ⟨h', hfz, hk⟩ := blt_frz hb
  have HK := Lib.hid hk
  clear hE hN hW hsum hb hk
  refine ClR.walk (c := _) hc Tryz.func115 rfl (by kernel_rfl) rfl tgR_fail ?_
  simp only [entryEnv, Nat.reduceAdd, List.nil_append, List.cons_append]
  repeat' (first | refine goS ?_ | refine go2 (fun hh => ?_) (fun hh => ?_) | fail)
  all_goals (simp only [resV_def (X := dX c) Tryz.func115, Tryz.results115]; first | exact J5 | refine J6 ?_)
  exact tgR_ret rfl HK.out
 | cons bs r ih =>
  intro now ws nv wv h hE hN hW hsum hdrop hwl hbound
  rw [List.length_cons] at hsum
  have hd : ((now.length : Int) == (L : Int)) = false := by simp; omega
  have o1 := hN.out
  have o2 := hW.out
  have l1 := hN.len
  have l2 := hW.len
  have t1 := hN.tup
  have t2 := hW.tup
  simp only [isTuple] at t1 t2
  have gl := hE.gl
  have hbs : bss0[now.length]? = some bs := by
   have := congrArg (fun l => l[0]?) hdrop
   simp only [List.getElem?_drop, Nat.add_zero, List.getElem?_cons_zero] at this
   exact this
  have hdr : bss0.drop (now.length + 1) = r := by
   have := congrArg List.tail hdrop
   simpa using this
  rw [prodL_cons] at hbound
  have hwb : ws.length * bs.length ≤ 16000000 ∧ ws.length ≤ 16000000 ∧ ws.length * bs.length * prodL r ≤ 16000000 := by
   have p := prodL_pos r
   have q1 : ws.length * bs.length * prodL r ≤ ws.length * ((bs.length + 1) * prodL r) := by
    rw [Nat.mul_assoc]
    exact Nat.mul_le_mul (Nat.le_refl _) (Nat.mul_le_mul (by omega) (Nat.le_refl _))
   have q2 : ws.length * bs.length * 1 ≤ ws.length * bs.length * prodL r := Nat.mul_le_mul (Nat.le_refl _) p
   have q3 : ws.length * 1 ≤ ws.length * ((bs.length + 1) * prodL r) := Nat.mul_le_mul (Nat.le_refl _) (by
    have := Nat.mul_le_mul (show 1 ≤ bs.length + 1 by omega) p
    omega)
   omega
  have hlen : (waysTo (posH cx cy wx wy rs) 0 bs ws).length ≤ 16000000 ∨ True := .inr trivial
  rw [srchT_cons]
  generalize hres : (List.range 12).findSome? (stpT (posH cx cy wx wy rs) bs r now ws) = res
  have HRES := Lib.hid hres
  have HE := Lib.hid hE
  have HN := Lib.hid hN
  have HW := Lib.hid hW
  have HSUM := Lib.hid hsum
  have HBS := Lib.hid hbs
  have HDR := Lib.hid hdr
  have HWL := Lib.hid hwl
  have HWB := Lib.hid hwb
  have IH := Lib.hid ih
  clear hE hN hW hsum hbs hdr hdrop hwl hwb hbound ih hres hlen
  refine ClR.walk (c := _) hc Tryz.func115 rfl (by kernel_rfl) rfl tgR_fail ?_
  simp only [entryEnv, Nat.reduceAdd, List.nil_append, List.cons_append]
  repeat' (first | refine goS ?_ | refine go2 (fun hh => ?_) (fun hh => ?_) | fail)
  refine W.loopN 12 (fun k F => ∃ e lm hp, F = Fr.mk 115 false e lm hp [] none ∧ HExt h hp ∧ (∀ i, i < k → stpT (posH cx cy wx wy rs) bs r now ws i = none) ∧
   e.get 0 = some nv ∧ e.get 1 = some wv ∧ e.get 2 = some (.ptr pl 0) ∧ e.get 3 = some (.ptr pa 0) ∧ e.get 4 = some (.ptr pm 0) ∧ e.get 5 = some (.ptr ps 0) ∧ e.get 9 = some (.int .i64 ↑(k + 1)) ∧ k ≤ 12) ?_ ?_
  ·refine ⟨_, _, _, rfl, HExt.refl _, fun i hi => absurd hi (by omega), ?_, ?_, ?_, ?_, ?_, ?_, ?_, ?_⟩ <;> first | exact Z2 | simp [go_sem, *]
  clear gl
  rintro k F ⟨e, lm, hp, rfl, hx, hno, h0, h1, h2, h3, h4, h5, h9, hk⟩
  have HX := Lib.hid hx
  have HNO := Lib.hid hno
  clear hx hno
  by_cases hlt : k < 12
  ·have hd2 : decide (((k + 1 : Nat) : Int) ≤ 12) = true := by simp; omega
   have hw : IntKind.i64.wrap (((k + 1 : Nat) : Int) + 1) = ((k + 1 + 1 : Nat) : Int) := wrap_nat (k := k + 1) (m := 14) (by omega) (by omega)
   have k116 := K116n (X := dX c) hc116 nv now (k + 1) hp (HN.out.ext HX.out) (by have := HSUM.out; unfold maxL; omega)
   have HST := Lib.hid (show stpT (posH cx cy wx wy rs) bs r now ws k = if now.contains (k + 1) then none else if (waysTo (posH cx cy wx wy rs) (k + 1) bs ws).isEmpty then none else srchT (posH cx cy wx wy rs) r (now ++ [k + 1]) (waysTo (posH cx cy wx wy rs) (k + 1) bs ws) from rfl)
   have HLT := Lib.hid hlt
   have hfin : ∀ o, stpT (posH cx cy wx wy rs) bs r now ws k = o → o = none → ∀ i, i < k + 1 → stpT (posH cx cy wx wy rs) bs r now ws i = none := fun o e1 e2 i hi => by
    rcases Nat.lt_or_ge i k with q | q
    ·exact HNO.out i q
    ·obtain rfl : i = k := by omega
     rw [e1, e2]
   have HFIN := Lib.hid hfin
   clear hfin hlt hk
   generalize now.contains (k + 1) = cc at *
   cases cc with
   | true =>
    have hst : stpT (posH cx cy wx wy rs) bs r now ws k = none := by rw [HST.out]; rfl
    have HS2 := Lib.hid hst
    clear hst
    repeat' (first | refine goS ?_ | (apply U6; exact Z1; exact Z1; (focus (simp only [List.nil_append, List.append_nil]; first | exact k116)); simp only [pM, pN, rR, rP]) | refine go2 (fun hh => ?_) (fun hh => ?_) | fail)
    refine ⟨HLT.out, _, _, hp, rfl, HX.out, HFIN.out _ HS2.out rfl, ?_, ?_, ?_, ?_, ?_, ?_, ?_, by have := HLT.out; omega⟩
    all_goals exact Z2
   | false =>
    repeat' (first | refine goS ?_ | (apply U6; exact Z1; exact Z1; (focus (simp only [List.nil_append, List.append_nil]; first | exact k116)); simp only [pM, pN, rR, rP]) | refine go2 (fun hh => ?_) (fun hh => ?_) | fail)
    refine W.loopN ws.length (fun i F => ∃ e lm hp u vs, F = Fr.mk 115 false e lm hp [] none ∧ HExt h hp ∧ BltN h.next hp u 1 vs ∧ ElemsC heldC 5 hp vs (waysTo (posH cx cy wx wy rs) (k + 1) bs (ws.take i)) ∧
     e.get 0 = some nv ∧ e.get 1 = some wv ∧ e.get 2 = some (.ptr pl 0) ∧ e.get 3 = some (.ptr pa 0) ∧ e.get 4 = some (.ptr pm 0) ∧ e.get 5 = some (.ptr ps 0) ∧ e.get 9 = some (.int .i64 ↑(k + 1)) ∧ e.get 10 = some u ∧ e.get 32 = some wv ∧ e.get 33 = some (.int .i64 ↑ws.length) ∧ e.get 34 = some (.int .i64 ↑i) ∧ i ≤ ws.length) ?_ ?_
    ·refine ⟨_, _, hp, .nilslice, [], rfl, HX.out, BltN.nil, ElemsC.nil, ?_, ?_, ?_, ?_, ?_, ?_, ?_, ?_, ?_, ?_, ?_, ?_⟩ <;> first | exact Z2 | simp [go_sem, *]
    clear h0 h1 h2 h3 h4 h5 h9 k116 HX
    rintro i F ⟨e, lm, hp, u, vs, rfl, hx, hu, hv, h0, h1, h2, h3, h4, h5, h9, h10, h32, h33, h34, hi⟩
    have HX := Lib.hid hx
    have HU := Lib.hid hu
    have HV := Lib.hid hv
    have ou := hu.blt.out
    have lu := hu.blt.len
    have tu := hu.blt.tup
    simp only [isTuple] at tu
    clear hu hv
    by_cases hil : i < ws.length
    ·have hd3 : decide ((i : Int) < (ws.length : Int)) = true := by simpa using hil
     have hw3 := wrap_nat (k := i) (m := ws.length) hil (by have := HWB.out.2.1; omega)
     obtain ⟨w, hwi⟩ := get_some hil
     obtain ⟨rv, hrb, hrd⟩ := HW.out.idx hwi
     obtain ⟨ptr, hix, hme⟩ := hrd hp hx
     have hrb2 := hrb.ext hx
     have orv := hrb2.out
     have trv := hrb2.tup
     have crv := hrb2.cells
     simp only [AV.cells] at crv
     simp only [isTuple] at trv
     have E := HE.out.ext hx
     have ga := E.ga
     obtain ⟨ov, hov⟩ : ∃ ov, owns[now.length]? = some ov := by
      have h1 := (List.getElem?_eq_some_iff.1 HBS.out).1
      exact ⟨_, List.getElem?_eq_getElem (by rw [E.bo.1]; exact h1)⟩
     have hob := E.bo.2 _ _ _ hov HBS.out
     have oov := hob.out
     have tov := hob.tup
     have cov := hob.cells
     have lov := hob.len
     rw [List.length_map] at lov
     simp only [AV.cells] at cov
     simp only [isTuple] at tov
     obtain ⟨ida, hia, hga⟩ := E.ba.idx (P := Tryz.prog) (t := 164) (e := 165) (ag := false) Tryz.underlying164 ty_lay165 (k := now.length) (List.getElem?_eq_some_iff.1 hov).1
     have oav := E.ba.out
     have tav := E.ba.tup
     have cav := E.ba.cells
     simp only [AV.cells] at cav
     simp only [isTuple] at tav
     have HWI := Lib.hid hwi
     have HRB := Lib.hid hrb
     have HOV := Lib.hid hov
     have HIL := Lib.hid hil
     clear hwi hrb hrd hrb2 E hob hil hi hx
     repeat' (first | refine goS ?_ | refine go2 (fun hh => ?_) (fun hh => ?_) | fail)
     refine W.loopN bs.length (fun j F => ∃ e lm hp u vs, F = Fr.mk 115 false e lm hp [] none ∧ HExt h hp ∧ BltN h.next hp u 1 vs ∧ ElemsC heldC 5 hp vs (waysTo (posH cx cy wx wy rs) (k + 1) bs (ws.take i) ++ ((bs.take j).map fun y => w ++ [heldB (k + 1) y]).filter (posH cx cy wx wy rs)) ∧
      e.get 0 = some nv ∧ e.get 1 = some wv ∧ e.get 2 = some (.ptr pl 0) ∧ e.get 3 = some (.ptr pa 0) ∧ e.get 4 = some (.ptr pm 0) ∧ e.get 5 = some (.ptr ps 0) ∧ e.get 9 = some (.int .i64 ↑(k + 1)) ∧ e.get 10 = some u ∧ e.get 12 = some rv ∧ e.get 32 = some wv ∧ e.get 33 = some (.int .i64 ↑ws.length) ∧ e.get 34 = some (.int .i64 ↑i) ∧ e.get 42 = some ov ∧ e.get 43 = some (.int .i64 ↑bs.length) ∧ e.get 44 = some (.int .i64 ↑j) ∧ j ≤ bs.length) ?_ ?_
     ·refine ⟨_, _, hp, u, vs, rfl, HX.out, HU.out, by simpa using HV.out, ?_, ?_, ?_, ?_, ?_, ?_, ?_, ?_, ?_, ?_, ?_, ?_, ?_, ?_, ?_, ?_⟩ <;> first | exact Z2 | simp [go_sem, *]
     clear h0 h1 h2 h3 h4 h5 h9 h10 h32 h33 h34 ou lu tu HX HU HV ga hia hga hix hme
     rintro j F ⟨e, lm, hp, u, vs, rfl, hx, hu, hv, h0, h1, h2, h3, h4, h5, h9, h10, h12, h32, h33, h34, h42, h43, h44, hj⟩
     have HX := Lib.hid hx
     have HU := Lib.hid hu
     have HV := Lib.hid hv
     have ou := hu.blt.out
     have tu := hu.blt.tup
     simp only [isTuple] at tu
     have hvl : vs.length + (0 + 1) ≤ most := by
      have e1 := hv.1
      have e2 := waysTo_len (posH cx cy wx wy rs) (k + 1) bs (ws.take i)
      have e3 := List.length_filter_le (posH cx cy wx wy rs) ((bs.take j).map fun y => w ++ [heldB (k + 1) y])
      rw [List.length_append] at e1
      rw [List.length_map, List.length_take] at e3
      rw [List.length_take] at e2
      have e4 : min i ws.length * bs.length + bs.length ≤ ws.length * bs.length := by
       have := HIL.out
       rw [Nat.min_eq_left (by omega), ← Nat.succ_mul]
       exact Nat.mul_le_mul (by omega) (Nat.le_refl _)
      have := HWB.out.1
      unfold most
      omega
     clear hu hv
     by_cases hjl : j < bs.length
     ·have hd4 : decide ((j : Int) < (bs.length : Int)) = true := by simpa using hjl
      have hw4 := wrap_nat (k := j) (m := bs.length) hjl (by
       have e1 := HIL.out
       have e2 := Nat.mul_le_mul (show 1 ≤ ws.length by omega) (Nat.le_refl bs.length)
       have := HWB.out.1
       omega)
      obtain ⟨y, hy⟩ := get_some hjl
      have E := HE.out.ext hx
      have hob := E.bo.2 _ _ _ HOV.out HBS.out
      obtain ⟨idb, hib, hgb⟩ := hob.idx (P := Tryz.prog) (t := 165) (e := 169) (ag := true) Tryz.underlying165 ty_lay169 (k := j) (by rw [List.length_map]; exact hjl)
      have hat : (bs.map bxC.enc)[j]? = some (.agg [.int .i64 y.x.lo, .int .i64 y.x.hi, .int .i64 y.y.lo, .int .i64 y.y.hi]) := by simp [hy, bxC]
      have gm := E.gm
      have hwlen := HWL.out w (List.mem_of_getElem? HWI.out)
      have hcl0 := C117 c hc117 rv w hp (HRB.out.ext hx) (by have := HSUM.out; omega)
      unfold ClR at hcl0
      obtain ⟨r1, hcl, hcr⟩ := hcl0
      unfold clS at hcr
      obtain ⟨v1, hp1, rfl, hB1, hX1⟩ := hcr
      have hll : w.length + (0 + 1) ≤ most := by have := HSUM.out; unfold most; omega
      have ov1 := hB1.blt.out
      have tv1 := hB1.blt.tup
      simp only [isTuple] at tv1
      have HB1 := Lib.hid hB1
      have HX1 := Lib.hid hX1
      have HY := Lib.hid hy
      have HJL := Lib.hid hjl
      clear hy E hob hB1 hX1 hjl hj hx
      repeat' (first | (apply W.draw (id := 14) (lc := [0, 1, 2, 3, 4, 5, 6, 7]) (hot := [(1, 3)]); kernel_rfl; kernel_rfl; kernel_rfl; exact Z4) | (refine WD.cons rfl rfl ?_) | (refine WD.nil ⟨?_, ?_⟩; rotate_left; simp only [tN, bN, eN, true_and]) | (refine calmR rfl rfl rfl rfl rfl ?_ ?_; (focus (first | exact Z2 | exact Z1))) | (refine calmE rfl rfl rfl rfl rfl ?_ ?_; (focus (first | exact Z2 | exact Z1))) | (with_reducible refine calmEnd) | (apply U6; exact Z1; exact Z1; (focus (exact hcl)); simp only [pM, pN, rR, rP]) | (apply WO1.appendN (t := 173) (u := 173) (e := 176) (e' := 176) (sz := 5) (tl := []) (b := hp.next) (h0 := hp); (focus (exact HB1.out)); (focus (exact HX1.out)); exact Z1; exact rfl; exact Z2; exact Z2; exact Z2; (focus (exact ty_row173)); exact Z1; (focus (intro v hv; simp at hv; subst hv; rfl)); (focus (simp only [List.length_map, List.length_cons, List.length_nil]; exact hll)); (focus (simp)); (intro v2 hp2 hB2 ho2 hX2; have hc2 := hB2.blt.cells; have ht2 := hB2.blt.tup; simp only [AV.cells] at hc2; simp only [isTuple] at ht2; have HB2 := Lib.hid hB2; have HX2 := Lib.hid hX2; clear hB2 hX2; simp only [pM, pN])) | refine go1 ?_ | refine go2 (fun hh => ?_) (fun hh => ?_) | fail)
      have hB2 := HB2.out
      have e1 : w.map heldC.enc ++ [.agg [.int .i64 ((k + 1 : Nat) : Int), .int .i64 y.x.lo, .int .i64 y.x.hi, .int .i64 y.y.lo, .int .i64 y.y.hi]] = (w ++ [heldB (k + 1) y]).map heldC.enc := by
       rw [List.map_append]; rfl
      rw [e1] at hB2
      have hX2 : HExt hp hp2 := HX2.out
      have hx02 : HExt h hp2 := HX.out.trans hX2
      have gm2 := (HE.out.ext hx02).gm
      have hk103 := K103r (X := dX c) hc103 sa ra mv cx cy wx wy rs hr hso hmo hrl v2 (w ++ [heldB (k + 1) y]) (by rw [List.length_append]; have := HSUM.out; simp; omega) hp2 hB2.blt
      obtain ⟨ka, kb, ek, oka, okb, tka, tkb, cka, ckb⟩ := knV_pos cx cy wx wy rs (w ++ [heldB (k + 1) y])
      rw [ek] at hk103
      have hcl2 : v2.cells.length = 1 := by rw [hB2.blt.cells]; rfl
      have HBU2 := Lib.hid ((HU.out.keep hX2).blt)
      have HUN2 := Lib.hid (HU.out.keep hX2)
      have HV2 := Lib.hid (HV.out.ext hX2)
      have hnx := filt_next (pos := posH cx cy wx wy rs) (n := k + 1) (w := w) HY.out
      have HNX := Lib.hid hnx
      have HBH := Lib.hid hB2.blt
      have HX02 := Lib.hid hx02
      simp only [isTuple] at tka tkb
      simp only [AV.cells] at cka ckb
      clear hB2 e1 hX2 hx02 ek hnx
      generalize posH cx cy wx wy rs (w ++ [heldB (k + 1) y]) = pb at *
      cases pb with
      | false =>
       repeat' (first | (apply W.draw (id := 14) (lc := [0, 1, 2, 3, 4, 5, 6, 7]) (hot := [(1, 3)]); kernel_rfl; kernel_rfl; kernel_rfl; exact Z4) | (refine WD.cons rfl rfl ?_) | (refine WD.nil ⟨?_, ?_⟩; rotate_left; simp only [tN, bN, eN, true_and]) | (refine calmR rfl rfl rfl rfl rfl ?_ ?_; (focus (first | exact Z2 | exact Z1))) | (refine calmE rfl rfl rfl rfl rfl ?_ ?_; (focus (first | exact Z2 | exact Z1))) | (with_reducible refine calmEnd) | (apply U6; exact Z1; exact Z1; (focus (exact hk103)); simp only [pM, pN, rR, rP]) | refine go1 ?_ | refine go2 (fun hh => ?_) (fun hh => ?_) | fail)
       refine ⟨HJL.out, _, _, hp2, u, vs, rfl, HX02.out, HUN2.out, ?_, ?_, ?_, ?_, ?_, ?_, ?_, ?_, ?_, ?_, ?_, ?_, ?_, ?_, ?_, ?_, by have := HJL.out; omega⟩
       ·rw [HNX.out]
        simpa using HV2.out
       all_goals exact Z2
      | true =>
       repeat' (first | (apply W.draw (id := 14) (lc := [0, 1, 2, 3, 4, 5, 6, 7]) (hot := [(1, 3)]); kernel_rfl; kernel_rfl; kernel_rfl; exact Z4) | (refine WD.cons rfl rfl ?_) | (refine WD.nil ⟨?_, ?_⟩; rotate_left; simp only [tN, bN, eN, true_and]) | (refine calmR rfl rfl rfl rfl rfl ?_ ?_; (focus (first | exact Z2 | exact Z1))) | (refine calmE rfl rfl rfl rfl rfl ?_ ?_; (focus (first | exact Z2 | exact Z1))) | (with_reducible refine calmEnd) | (apply U6; exact Z1; exact Z1; (focus (exact hk103)); simp only [pM, pN, rR, rP]) | (apply WO1.appendE (t := 172) (u := 172) (e := 173) (e' := 173) (sz := 1) (tl := []) (hb := HBU2.out); exact Z1; exact rfl; exact Z2; exact Z2; exact Z2; (focus (exact ty_row172)); exact Z1; (focus (intro v hv; simp only [List.mem_singleton] at hv; subst hv; exact hcl2)); (focus (simp only [List.length_cons, List.length_nil]; exact hvl)); (focus (simp)); (intro v3 hp3 hB3 ho3 hK3 hE3; have hc3 := hB3.cells; have ht3 := hB3.tup; simp only [AV.cells] at hc3; simp only [isTuple] at ht3; have HB3 := Lib.hid hB3; have HK3 := Lib.hid hK3; have HE3 := Lib.hid hE3; clear hB3 hK3 hE3; simp only [pM, pN])) | refine go1 ?_ | refine go2 (fun hh => ?_) (fun hh => ?_) | fail)
       have hbh : Blt hp3 v2 5 ((w ++ [heldB (k + 1) y]).map heldC.enc) := HBH.out.other HBU2.out (by omega) HK3.out
       refine ⟨HJL.out, _, _, hp3, v3, vs ++ [v2], rfl, hext_keeps HX02.out HUN2.out HK3.out, bltN_row HB3.out HE3.out HX02.out.1, ?_, ?_, ?_, ?_, ?_, ?_, ?_, ?_, ?_, ?_, ?_, ?_, ?_, ?_, ?_, ?_, by have := HJL.out; omega⟩
       ·rw [HNX.out, if_pos rfl, ← List.append_assoc]
        exact (HV2.out.other HBU2.out (by omega) HK3.out).add hbh
       all_goals exact Z2
     ·have hd4 : decide ((j : Int) < (bs.length : Int)) = false := by simpa using hjl
      have hjj : bs.take j = bs := List.take_of_length_le (by omega)
      have hv2 := HV.out
      rw [hjj, ← waysTo_next HWI.out] at hv2
      have HV2 := Lib.hid hv2
      clear hjj hv2 hjl hj
      repeat' (first | refine goS ?_ | refine go2 (fun hh => ?_) (fun hh => ?_) | fail)
      refine ⟨HIL.out, _, _, hp, u, vs, rfl, HX.out, HU.out, HV2.out, ?_, ?_, ?_, ?_, ?_, ?_, ?_, ?_, ?_, ?_, ?_, by have := HIL.out; omega⟩
      all_goals exact Z2
    ·have hd3 : decide ((i : Int) < (ws.length : Int)) = false := by simpa using hil
     have hii : ws.take i = ws := List.take_of_length_le (by omega)
     have hv2 := HV.out
     rw [hii] at hv2
     have hvl := hv2.1
     have hemp : ((vs.length : Int) == 0) = (waysTo (posH cx cy wx wy rs) (k + 1) bs ws).isEmpty := by
      rw [hvl]
      cases waysTo (posH cx cy wx wy rs) (k + 1) bs ws with
      | nil => rfl
      | cons a l => simp; omega
     have HV2 := Lib.hid hv2
     clear hii hv2 hil hi hvl
     cases hem : (waysTo (posH cx cy wx wy rs) (k + 1) bs ws).isEmpty with
     | true =>
      rw [hem] at hemp
      have hst : stpT (posH cx cy wx wy rs) bs r now ws k = none := by rw [HST.out, hem]; rfl
      have HS2 := Lib.hid hst
      clear hst hem
      repeat' (first | refine goS ?_ | refine go2 (fun hh => ?_) (fun hh => ?_) | fail)
      refine ⟨HLT.out, _, _, hp, rfl, HX.out, HFIN.out _ HS2.out rfl, ?_, ?_, ?_, ?_, ?_, ?_, ?_, by have := HLT.out; omega⟩
      all_goals exact Z2
     | false =>
      rw [hem] at hemp
      have hst : stpT (posH cx cy wx wy rs) bs r now ws k = srchT (posH cx cy wx wy rs) r (now ++ [k + 1]) (waysTo (posH cx cy wx wy rs) (k + 1) bs ws) := by rw [HST.out, hem]; rfl
      have HS2 := Lib.hid hst
      have E := HE.out.ext hx
      have gs := E.gs
      have hcl0 := C118n c hc118 nv now hp (HN.out.ext hx) (by have := HSUM.out; omega)
      unfold ClR at hcl0
      obtain ⟨r1, hcl, hcr⟩ := hcl0
      unfold clN at hcr
      obtain ⟨v1, hp1, rfl, hX1, hB1⟩ := hcr
      have ov1 : outV (some v1) = some v1 := by rcases hB1 with ⟨rfl, _⟩ | b; rfl; exact b.blt.out
      have tv1 : isTuple v1 = false := by rcases hB1 with ⟨rfl, _⟩ | b; rfl; exact b.blt.tup
      simp only [isTuple] at tv1
      have HB1 := Lib.hid (show (v1 = .vempty ∧ natsV now = []) ∨ Blt hp1 v1 1 (natsV now) by
       rcases hB1 with ⟨q1, q2⟩ | b
       ·exact .inl ⟨q1, by rw [q2]; rfl⟩
       ·exact .inr b.blt)
      have HB1N := Lib.hid hB1
      have HX1 := Lib.hid hX1
      have hll : now.length + (0 + 1) ≤ most := by have := HSUM.out; unfold most; omega
      have gs1 := (E.ext hX1).gs
      clear hst hem hB1 hX1 E hx
      repeat' (first | (apply W.draw (id := 21) (lc := [0, 1, 2, 3, 4, 5, 6, 7, 8]) (hot := [(0, 2), (0, 5)]); kernel_rfl; kernel_rfl; kernel_rfl; exact Z4) | (apply WD.cons (o := ⟨some 18, _, _, _, _, none⟩); exact rfl; exact rfl) | (refine WD.cons rfl rfl ?_) | (refine WD.nil ⟨?_, ?_⟩; rotate_left; simp only [tN, bN, eN, true_and]) | (refine calmR rfl rfl rfl rfl rfl ?_ ?_; (focus (first | exact Z2 | exact Z1))) | (refine calmE rfl rfl rfl rfl rfl ?_ ?_; (focus (first | exact Z2 | exact Z1))) | (with_reducible refine calmEnd) | (apply U6; exact Z1; exact Z1; (focus (exact hcl)); simp only [pM, pN, rR, rP]) | (apply WO1.appendB (t := 39) (u := 39) (e := 3) (e' := 3) (sz := 1) (tl := []) (hb := HB1.out); exact Z1; exact rfl; exact Z2; exact Z2; exact Z2; (focus (exact ty_row39)); exact Z1; (focus (intro v hv; simp at hv; subst hv; rfl)); (focus (simp only [natsV_len, List.length_cons, List.length_nil]; exact hll)); (focus (simp)); (intro v2 hp2 hB2 ho2 hK2 hE2; have hc2 := hB2.cells; have ht2 := hB2.tup; simp only [AV.cells] at hc2; simp only [isTuple] at ht2; have HB2 := Lib.hid hB2; have HK2 := Lib.hid hK2; have HE2 := Lib.hid hE2; clear hB2 hK2 hE2; simp only [pM, pN])) | refine go1 ?_ | refine go2 (fun hh => ?_) (fun hh => ?_) | fail)
      have hx02 : HExt hp hp2 := by
       refine ⟨Nat.le_trans HX1.out.1 HK2.out.1, fun id hid => ?_⟩
       rw [HK2.out.2 id (Nat.lt_of_lt_of_le hid HX1.out.1) fun o n e => ?_]
       ·exact HX1.out.2 id hid
       ·rcases HB1N.out with ⟨q, _⟩ | ⟨q, _⟩ | ⟨m, q1, _, q3, _⟩
        ·rw [q] at e; cases e
        ·rw [q] at e; cases e
        ·rw [q1] at e; cases e; omega
      have hx2 : HExt h hp2 := HX.out.trans hx02
      have hB2 := HB2.out
      have e1 : natsV now ++ [.int .i64 ((k + 1 : Nat) : Int)] = natsV (now ++ [k + 1]) := by simp [natsV]
      rw [e1] at hB2
      have hrec0 := IH.out (now ++ [k + 1]) (waysTo (posH cx cy wx wy rs) (k + 1) bs ws) v2 u hp2 (HE.out.ext hx2) (.inr hB2) ⟨vs, .inr ((HU.out.blt).ext hx02), HV2.out.ext hx02⟩ (by rw [List.length_append]; have := HSUM.out; simp; omega) (by rw [List.length_append]; exact HDR.out) (fun x hx => by
       obtain ⟨w, hw, y, _, rfl, _⟩ := waysTo_mem.1 hx
       rw [List.length_append, List.length_append, HWL.out w hw]
       rfl) (Nat.le_trans (Nat.mul_le_mul (waysTo_len _ _ _ _) (Nat.le_refl _)) HWB.out.2.2)
      unfold ClR at hrec0
      obtain ⟨r2, hrec, hrr⟩ := hrec0
      unfold tgR at hrr
      obtain ⟨h4, rfl, hk4⟩ := hrr
      have hx4 : HExt h h4 := by
       refine ⟨Nat.le_trans hx2.1 hk4.1, fun id hid => ?_⟩
       rw [hk4.2 id (Nat.lt_of_lt_of_le hid hx2.1) fun o n e => ?_]
       ·exact hx2.2 id hid
       ·have hE := HE2.out
        simp only at hE
        rw [hE] at e
        cases e
        have := HX.out.1
        have := HX1.out.1
        omega
      have hne := fun s (e : srchT (posH cx cy wx wy rs) r (now ++ [k + 1]) (waysTo (posH cx cy wx wy rs) (k + 1) bs ws) = some s) => srchT_ne _ _ _ _ s e (by simp; omega)
      have gs2 := (HE.out.ext hx2).gs
      have HX4 := Lib.hid hx4
      have HNE := Lib.hid hne
      clear hx02 hx2 hB2 e1 hk4 hx4 hne
      generalize srchT (posH cx cy wx wy rs) r (now ++ [k + 1]) (waysTo (posH cx cy wx wy rs) (k + 1) bs ws) = so at *
      cases so with
      | none =>
       simp only [ansV] at hrec
       have q39 := neq39n
       repeat' (first | (apply W.draw (id := 21) (lc := [0, 1, 2, 3, 4, 5, 6, 7, 8]) (hot := [(0, 2), (0, 5)]); kernel_rfl; kernel_rfl; kernel_rfl; exact Z4) | (apply WD.cons (o := ⟨some 18, _, _, _, _, none⟩); exact rfl; exact rfl) | (refine WD.cons rfl rfl ?_) | (refine WD.nil ⟨?_, ?_⟩; rotate_left; simp only [tN, bN, eN, true_and]) | (refine calmR rfl rfl rfl rfl rfl ?_ ?_; (focus (first | exact Z2 | exact Z1))) | (refine calmE rfl rfl rfl rfl rfl ?_ ?_; (focus (first | exact Z2 | exact Z1))) | (with_reducible refine calmEnd) | (apply U6; exact Z1; exact Z1; (focus (exact hrec)); simp only [pM, pN, rR, rP]) | refine go1 ?_ | refine go2 (fun hh => ?_) (fun hh => ?_) | fail)
       refine ⟨HLT.out, _, _, h4, rfl, HX4.out, HFIN.out _ HS2.out rfl, ?_, ?_, ?_, ?_, ?_, ?_, ?_, by have := HLT.out; omega⟩
       all_goals exact Z2
      | some s =>
       have hsn := HNE.out s rfl
       have hsv : slN (natsV s) = .vslice (natsV s) := by
        cases s with
        | nil => exact absurd rfl hsn
        | cons a l => rfl
       simp only [ansV, hsv] at hrec
       have q39 := neq39v (natsV s)
       have hrs : res = some s := by rw [← HRES.out]; exact find_some HNO.out HS2.out HLT.out
       have HSV := Lib.hid hsv
       clear hsn hsv
       repeat' (first | (apply W.draw (id := 21) (lc := [0, 1, 2, 3, 4, 5, 6, 7, 8]) (hot := [(0, 2), (0, 5)]); kernel_rfl; kernel_rfl; kernel_rfl; exact Z4) | (apply WD.cons (o := ⟨some 18, _, _, _, _, none⟩); exact rfl; exact rfl) | (refine WD.cons rfl rfl ?_) | (refine WD.nil ⟨?_, ?_⟩; rotate_left; simp only [tN, bN, eN, true_and]) | (refine calmR rfl rfl rfl rfl rfl ?_ ?_; (focus (first | exact Z2 | exact Z1))) | (refine calmE rfl rfl rfl rfl rfl ?_ ?_; (focus (first | exact Z2 | exact Z1))) | (with_reducible refine calmEnd) | (apply U6; exact Z1; exact Z1; (focus (exact hrec)); simp only [pM, pN, rR, rP]) | refine go1 ?_ | refine go2 (fun hh => ?_) (fun hh => ?_) | fail)
       all_goals (simp only [resV_def (X := dX c) Tryz.func115, Tryz.results115]; first | exact J5 | refine J6 ?_)
       refine tgR_ret HSV.out.symm ⟨HX4.out.1, fun id hid _ => HX4.out.2 id hid⟩
  ·have hd2 : decide (((k + 1 : Nat) : Int) ≤ 12) = false := by simp; omega
   have hk12 : k = 12 := by omega
   have hrs : res = none := by
    rw [← HRES.out]
    exact find_none fun j hj => HNO.out j (by omega)
   clear hlt hk hk12
   repeat' (first | refine goS ?_ | refine go2 (fun hh => ?_) (fun hh => ?_) | fail)
   all_goals (simp only [resV_def (X := dX c) Tryz.func115, Tryz.results115]; first | exact J5 | refine J6 ?_)
   exact tgR_ret rfl ⟨HX.out.1, fun id hid _ => HX.out.2 id hid⟩
end Go.AM
namespace Go.AM
open Go Go.Proofs
variable [Keep]
attribute [local irreducible] W WO WO1 WD WQ WT thenQ blockQ endR isRet retK Cl ClR
attribute [local irreducible] roundQ RdR clR boundsS machB boxL suitB bothV axisV refBoxes
theorem bothV_held {st : List Pt} {cx cy wx wy : Sp} {rs : List Rdg} {ms : List Held} (h : machB st cx cy wx wy rs = true) (hm : ∀ m ∈ ms, HeldOk m) : ∃ x y, bothV cx cy wx wy (marksOf rs ++ ms) = .tuple [x, y, .bool ((boundsS (ax0 cx wx rs ms)).isSome && (boundsS (ax1 cy wy rs ms)).isSome)] ∧
  outV (some x) = some x ∧ outV (some y) = some y ∧ isTuple x = false ∧ isTuple y = false ∧ (∀ t, boundsS (ax0 cx wx rs ms) = some t → x = .vslice (t.map spC.enc)) ∧ (∀ t, boundsS (ax1 cy wy rs ms) = some t → y = .vslice (t.map spC.enc)) := by
 obtain ⟨x, e1, e2, e3, e4⟩ := axO_is (boundsS (ax0 cx wx rs ms))
 obtain ⟨y, f1, f2, f3, f4⟩ := axO_is (boundsS (ax1 cy wy rs ms))
 refine ⟨x, y, ?_, e2, f2, e3, f3, fun t ht => e4 t ht (boundsS_len ht), fun t ht => f4 t ht (boundsS_len ht)⟩
 unfold bothV
 rw [axisXh h hm, axisYh h hm, e1, f1]
 rfl
theorem K109 {X : Ctx} (hX : X.intr 109 = some (pureFn sp109)) (sa ra ha : AV) (ss hs : List Pt) (rs : List Rdg) (cx cy wx wy : Sp) (err : Int) (hl : slV ptC sa = some ss) (hr : slV rdgC ra = some rs) (hh : slV ptC ha = some hs) (hg : hs.length = ss.length ∧ 1 ≤ ss.length ∧ ss.length ≤ 4) (h : Heap) :
  Cl X 109 [.agg [sa, .int .i64 cx.lo, .int .i64 cx.hi, .int .i64 cy.lo, .int .i64 cy.hi, .int .i64 wx.lo, .int .i64 wx.hi, .int .i64 wy.lo, .int .i64 wy.hi, ra], .agg [ha, .int .i64 err]] h (.ret (slN ((refBoxes err ss hs 8).map markE)) h none) :=
 Cl.intr hX (by
  have e : (decide (hs.length = ss.length) && decide (1 ≤ ss.length) && decide (ss.length ≤ 4)) = true := by
   simp only [Bool.and_eq_true, decide_eq_true_eq]; omega
  simp [pureFn, AV.pur, AV.purL, sl_pur hl, sl_pur hr, sl_pur hh, sp109, hl, hr, hh, e])
theorem lev_small4 {n : Nat} (h : n ≤ 4) : (lev n n).length ≤ 24 := by
 match n, h with
 | 0, _ => decide
 | 1, _ => decide
 | 2, _ => decide
 | 3, _ => decide
 | 4, _ => decide
theorem refTo_lenB (err : Int) (ss hs : List Pt) (t : Nat) : ∀ (os : List (List Nat)) (out : List Bx), (refTo err ss hs t os out).length ≤ out.length + os.length := by
 intro os
 induction os with
 | nil => intro out; exact Nat.le_refl _
 | cons o r ih =>
  intro out
  have h1 := ih (addB out (refBx err ss hs t o ss.length))
  have h2 := addB_len out (refBx err ss hs t o ss.length)
  have e : refTo err ss hs t (o :: r) out = refTo err ss hs t r (addB out (refBx err ss hs t o ss.length)) := rfl
  rw [e, List.length_cons]
  omega
theorem refBoxes_lenB (err : Int) {ss hs : List Pt} (h : ss.length ≤ 4) : ∀ k, (refBoxes err ss hs k).length ≤ 24 * k := by
 intro k
 induction k with
 | zero => unfold refBoxes; simp
 | succ k ih =>
  rw [refBoxes_succ]
  have h1 := refTo_lenB err ss hs k (lev ss.length ss.length) (refBoxes err ss hs k)
  have h2 := lev_small4 h
  omega
theorem mkE_idx {l : List Bx} {k : Nat} {y : Bx} (h : l[k]? = some y) (H : Heap) : indexAddrV Tryz.prog H 156 (slN (l.map markE)) (.int .i64 ↑k) = some (.vptr [.int .i64 0, .int .i64 y.x.lo, .int .i64 y.x.hi, .int .i64 y.y.lo, .int .i64 y.y.hi]) :=
 (slN_is _).idx (x := markE y) Tryz.underlying156 ty_lay181 (by simp [h]) rfl
theorem any_ref {err : Int} {ss hs : List Pt} {cx cy wx wy : Sp} {rs : List Rdg} (h : suitB (machB ss cx cy wx wy rs) ss hs err = true) (p : Bx → Bool) : (refBoxes err ss hs 8).any p = (boxL err ss hs).any p ∧ ∀ y ∈ refBoxes err ss hs 8, BdB y := by
 obtain ⟨h1, h2, h3, h4, h5⟩ := suit_pts h
 rw [refBoxes_dd h1 h2 h3 h4 h5]
 refine ⟨dd_any p _, fun y hy => ?_⟩
 rw [dd_mem] at hy
 rcases hy with q | q
 ·cases q
 ·exact (boxL_bd h1 h2 h3 h4 h5 y q).1
end Go.AM
namespace Go.AM
open Go Go.Proofs
variable [Keep]
attribute [local irreducible] W WO WO1 WD WQ WT thenQ blockQ endR isRet retK Cl ClR
attribute [local irreducible] isNew roundQ RdR boundsS machB boxL suitB posH clS clN tgR addU
def ddB (st : List Pt) (b : BA) : List Bx := (boxL b.err st b.holes).foldl addU []
def togV (ok poss : Bool) (o : Option (List Nat)) : AV :=
 if ok then (if poss then (match o with
  | some s => .tuple [slN (natsV s), .int .i64 0]
  | none => .tuple [.nilslice, .int .i64 5]) else .tuple [.nilslice, .int .i64 7]) else .tuple [.nilslice, .int .i64 2]
theorem togV_pur (ok poss : Bool) (o : Option (List Nat)) : (togV ok poss o).pur = true := by
 unfold togV
 cases ok
 ·rfl
 ·cases poss
  ·rfl
  ·cases o with
   | none => rfl
   | some s => simp [AV.pur, AV.purL, slN_pur (natsV_pur s)]
def togOk (m : Bool) (st : List Pt) (l : List BA) : Bool := m && inB l.length 1 3 && l.all fun b => suitB m st b.holes b.err
def sp50 : List AV → Option AV
 | [.agg [sa, .int .i64 cxl, .int .i64 cxh, .int .i64 cyl, .int .i64 cyh, .int .i64 wxl, .int .i64 wxh, .int .i64 wyl, .int .i64 wyh, ra], la] => match slV ptC sa, slV rdgC ra, slV butC la with
  | some st, some rs, some l => if (l.all BA.ok && (!(togOk (machB st ⟨cxl, cxh⟩ ⟨cyl, cyh⟩ ⟨wxl, wxh⟩ ⟨wyl, wyh⟩ rs) st l) || decide (prodL (l.map (ddB st)) ≤ 16000000))) = true then
    some (togV (togOk (machB st ⟨cxl, cxh⟩ ⟨cyl, cyh⟩ ⟨wxl, wxh⟩ ⟨wyl, wyh⟩ rs) st l) (possB ⟨cxl, cxh⟩ ⟨cyl, cyh⟩ ⟨wxl, wxh⟩ ⟨wyl, wyh⟩ rs) (srchT (posH ⟨cxl, cxh⟩ ⟨cyl, cyh⟩ ⟨wxl, wxh⟩ ⟨wyl, wyh⟩ rs) (l.map (ddB st)) [] [[]])) else none
  | _, _, _ => none
 | _ => none
theorem p50 : ∀ args v, sp50 args = some v → v.pur = true := by
 intro args v h
 unfold sp50 at h
 split at h
 ·split at h
  ·split at h
   ·cases h; exact togV_pur _ _ _
   ·cases h
  ·cases h
 ·cases h
noncomputable def cJD : Itr
 | 93 => some (pureFn sp93)
 | 96 => some (pureFn sp96)
 | 101 => some (flatFn sp101)
 | 103 => some (onHeap h103)
 | 112 => some (pureFn sp112)
 | 114 => some (flatFn sp114)
 | 116 => some (flatFn sp116)
 | 164 => some (flatFn sp164)
 | _ => none
theorem cJD_sound : Sound (dX cJD) := dX_sound (fun f g h => by
 unfold cJD at h
 split at h
 ·cases h; exact F93
 ·cases h; exact F96
 ·cases h; exact F101
 ·cases h; exact H103
 ·cases h; exact F112
 ·cases h; exact F114
 ·cases h; exact F116
 ·cases h; exact F164
 ·cases h)
def stepJ (y : Bx) (s : List Bx) : List Bx × Bool := (addU s y, true)
theorem foldJ : ∀ (l s : List Bx), foldS stepJ l s = (l.foldl addU s, true) := by
 intro l
 induction l with
 | nil => intro s; rfl
 | cons y l ih =>
  intro s
  simp only [foldS, stepJ, if_true, List.foldl_cons]
  exact ih _
theorem addU_def (out : List Bx) (x : Bx) : addU out x = if out.any (fun y => bxEq y x) then out else out ++ [x] := by unfold addU; rfl
theorem any_sym (s : List Bx) (y : Bx) : (s.any fun p => bxEq y p) = s.any fun p => bxEq p y := by
 congr 1
 funext p
 rw [Bool.eq_iff_iff, bxEq_iff, bxEq_iff]
 exact eq_comm
theorem addU_len (s : List Bx) (y : Bx) : (addU s y).length ≤ s.length + 1 := by
 rw [addU_def]
 split
 ·omega
 ·simp
theorem boxL_len {err : Int} {ss hs : List Pt} (h4 : ss.length ≤ 4) : (boxL err ss hs).length ≤ 192 := by
 have key : ∀ k, ((List.range k).flatMap (boxT err ss hs)).length ≤ 24 * k := by
  intro k
  induction k with
  | zero => simp
  | succ k ih =>
   rw [List.range_succ, List.flatMap_append, List.length_append]
   have h1 : (boxT err ss hs k).length ≤ 24 := by
    have h2 := List.length_filterMap_le (boxOn err ss hs k) (ordsL ss.length ss.length [])
    have h3 : (ordsL ss.length ss.length []).length ≤ 24 := by
     rw [ords_lev]
     exact lev_small4 h4
    exact Nat.le_trans h2 h3
   simp only [List.flatMap_cons, List.flatMap_nil, List.append_nil]
   omega
 have := key 8
 have e : boxL err ss hs = (List.range 8).flatMap (boxT err ss hs) := by unfold boxL; rfl
 rw [e]
 exact this
theorem ElemsC.putv {α : Type} {c : Cd α} {sz id : Nat} {h : Heap} {es : List AV} {ps : List (List α)} {bl : Blk} (q : ElemsC c sz h es ps) (hg : ∀ z r, h.get id ≠ some (.rw z r)) : ElemsC c sz (h.put id bl) es ps := ⟨q.1, fun i r p h1 h2 => (q.2 i r p h1 h2).putv hg⟩
theorem stR_goJ {σ : Type} {I D : σ → Heap → Prop} {own : Heap → Nat → Prop} {ex : Nat → Prop} {h h' : Heap} {x : σ × Bool} {s : σ} (e : x = (s, true)) (q : I s h' ∧ Rel own h h') : stR I D own ex h x (.ret (.bool true) h' none) := stR_go e q.1 q.2
theorem eq39v (l : List AV) : binV Tryz.prog .eql 39 true (.vslice l) .nilslice = some (.bool false) := by
 simp [binV, eqOp, eqV, isSliceT, whenB, Tryz.underlying39]
set_option maxHeartbeats 16000000 in
theorem F50 : IntrFn Tryz.prog 50 (pureFn sp50) := by
 refine pure_fn (X := dX cJD) cJD_sound p50 ?_
 intro args v h
 unfold sp50 at h
 split at h
 ·rename_i sa cxl cxh cyl cyh wxl wxh wyl wyh ra la
  split at h
  ·rename_i st rs l hl hr hb
   split at h
   ·rename_i hg
    have h := Option.some.inj h
    subst h
    simp only [Bool.and_eq_true] at hg
    obtain ⟨hok, hbound⟩ := hg
    have o2 := sl_out hl
    have o3 := sl_out hr
    have o4 := sl_out hb
    obtain ⟨n2, t2⟩ := sl_one hl
    obtain ⟨n3, t3⟩ := sl_one hr
    obtain ⟨n4, t4⟩ := sl_one hb
    have c2 : sa.cells = [sa] := (slV_is hl).1.cells
    have c3 : ra.cells = [ra] := (slV_is hr).1.cells
    have c4 : la.cells = [la] := (slV_is hb).1.cells
    have ln4 := sl_len hb
    simp only [AV.cells] at c2 c3 c4
    simp only [isTuple] at t2 t3 t4
    have k93 := fun h => K93 (X := dX cJD) rfl (l.length : Int) 1 3 h
    have k101 := fun h => K101 (X := dX cJD) rfl sa ra st rs ⟨cxl, cxh⟩ ⟨cyl, cyh⟩ ⟨wxl, wxh⟩ ⟨wyl, wyh⟩ hl hr h
    have hk := fun (hp : Heap) (mv : AV) (hmv : mv.one = true) => K103h (X := dX cJD) rfl sa ra mv ⟨cxl, cxh⟩ ⟨cyl, cyh⟩ ⟨wxl, wxh⟩ ⟨wyl, wyh⟩ rs hr n2 hmv hp
    have h102 := fun n m => C102 cJD rfl sa ra ⟨cxl, cxh⟩ ⟨cyl, cyh⟩ ⟨wxl, wxh⟩ ⟨wyl, wyh⟩ (slV_is hl).1.frz1 (slV_is hr).1.frz1 n m
    have h110 := fun (h : Heap) (hg0 : h.get 0 = some (.var [sa, .int .i64 cxl, .int .i64 cxh, .int .i64 cyl, .int .i64 cyh, .int .i64 wxl, .int .i64 wxh, .int .i64 wyl, .int .i64 wyh, ra])) => C110 cJD rfl rfl la l hb hok 111 [] [.ptr 0 0] (fun b => !suitB (machB st ⟨cxl, cxh⟩ ⟨cyl, cyh⟩ ⟨wxl, wxh⟩ ⟨wyl, wyh⟩ rs) st b.holes b.err) h (fun b hm => C111 cJD rfl rfl 0 b (List.all_eq_true.1 hok b hm) sa ra st rs ⟨cxl, cxh⟩ ⟨cyl, cyh⟩ ⟨wxl, wxh⟩ ⟨wyl, wyh⟩ hl hr h hg0)
    have hany : (l.any fun b => !suitB (machB st ⟨cxl, cxh⟩ ⟨cyl, cyh⟩ ⟨wxl, wxh⟩ ⟨wyl, wyh⟩ rs) st b.holes b.err) = !(l.all fun b => suitB (machB st ⟨cxl, cxh⟩ ⟨cyl, cyh⟩ ⟨wxl, wxh⟩ ⟨wyl, wyh⟩ rs) st b.holes b.err) := by
     rw [List.all_eq_not_any_not, Bool.not_not]
    rw [hany] at h110
    have HSM := Lib.hid (fun (hm : machB st ⟨cxl, cxh⟩ ⟨cyl, cyh⟩ ⟨wxl, wxh⟩ ⟨wyl, wyh⟩ rs = true) => mach_small hm)
    have HSU := Lib.hid (fun (b : BA) (hs : suitB (machB st ⟨cxl, cxh⟩ ⟨cyl, cyh⟩ ⟨wxl, wxh⟩ ⟨wyl, wyh⟩ rs) st b.holes b.err = true) => suit_small hs)
    have HTO := Lib.hid (show togOk (machB st ⟨cxl, cxh⟩ ⟨cyl, cyh⟩ ⟨wxl, wxh⟩ ⟨wyl, wyh⟩ rs) st l = (machB st ⟨cxl, cxh⟩ ⟨cyl, cyh⟩ ⟨wxl, wxh⟩ ⟨wyl, wyh⟩ rs && inB l.length 1 3 && l.all fun b => suitB (machB st ⟨cxl, cxh⟩ ⟨cyl, cyh⟩ ⟨wxl, wxh⟩ ⟨wyl, wyh⟩ rs) st b.holes b.err) from rfl)
    have H102 := Lib.hid h102
    have H110 := Lib.hid h110
    have HHK := Lib.hid hk
    have HL := Lib.hid hl
    have HR := Lib.hid hr
    have HB := Lib.hid hb
    have HOK := Lib.hid hok
    have HBO := Lib.hid hbound
    clear h102 h110 hk hl hr hb hok hbound hany
    refine ClR.walk (c := _) rfl Tryz.func50 rfl (by kernel_rfl) rfl isRet_fail ?_
    simp only [entryEnv, Nat.reduceAdd, emptyHp]
    generalize togOk (machB st ⟨cxl, cxh⟩ ⟨cyl, cyh⟩ ⟨wxl, wxh⟩ ⟨wyl, wyh⟩ rs) st l = tok at *
    have hcase : (machB st ⟨cxl, cxh⟩ ⟨cyl, cyh⟩ ⟨wxl, wxh⟩ ⟨wyl, wyh⟩ rs = false ∧ tok = false) ∨ (machB st ⟨cxl, cxh⟩ ⟨cyl, cyh⟩ ⟨wxl, wxh⟩ ⟨wyl, wyh⟩ rs = true ∧ inB l.length 1 3 = false ∧ tok = false) ∨ (machB st ⟨cxl, cxh⟩ ⟨cyl, cyh⟩ ⟨wxl, wxh⟩ ⟨wyl, wyh⟩ rs = true ∧ inB l.length 1 3 = true ∧ (l.all fun b => suitB (machB st ⟨cxl, cxh⟩ ⟨cyl, cyh⟩ ⟨wxl, wxh⟩ ⟨wyl, wyh⟩ rs) st b.holes b.err) = false ∧ tok = false) ∨ (machB st ⟨cxl, cxh⟩ ⟨cyl, cyh⟩ ⟨wxl, wxh⟩ ⟨wyl, wyh⟩ rs = true ∧ inB l.length 1 3 = true ∧ (l.all fun b => suitB (machB st ⟨cxl, cxh⟩ ⟨cyl, cyh⟩ ⟨wxl, wxh⟩ ⟨wyl, wyh⟩ rs) st b.holes b.err) = true ∧ tok = true) := by
     rw [HTO.out]
     generalize (l.all fun b => suitB (machB st ⟨cxl, cxh⟩ ⟨cyl, cyh⟩ ⟨wxl, wxh⟩ ⟨wyl, wyh⟩ rs) st b.holes b.err) = al
     cases al <;> cases machB st ⟨cxl, cxh⟩ ⟨cyl, cyh⟩ ⟨wxl, wxh⟩ ⟨wyl, wyh⟩ rs <;> cases inB l.length 1 3 <;> simp
    rcases hcase with ⟨q1, rfl⟩ | ⟨q1, q2, rfl⟩ | ⟨q1, q2, q3, rfl⟩ | ⟨q1, q2, q3, rfl⟩
    ·rw [q1] at k101
     simp only [togV, Bool.false_eq_true, if_false]
     clear HTO HSM HSU q1
     repeat' (first | refine goS ?_ | (apply U6; exact Z1; exact Z1; (focus (simp only [List.nil_append, List.append_nil]; first | exact k101 _ | exact k93 _)); simp only [pM, pN, rR, rP]) | refine go2 (fun hh => ?_) (fun hh => ?_) | fail)
     all_goals (simp only [resV_def (X := dX cJD) Tryz.func50, Tryz.results50]; first | exact J5 | refine J6 ?_)
    ·rw [q1] at k101
     rw [q2] at k93
     simp only [togV, Bool.false_eq_true, if_false]
     clear HTO HSM HSU q1 q2
     repeat' (first | refine goS ?_ | (apply U6; exact Z1; exact Z1; (focus (simp only [List.nil_append, List.append_nil]; first | exact k101 _ | exact k93 _)); simp only [pM, pN, rR, rP]) | refine go2 (fun hh => ?_) (fun hh => ?_) | fail)
     all_goals (simp only [resV_def (X := dX cJD) Tryz.func50, Tryz.results50]; first | exact J5 | refine J6 ?_)
    ·rw [q1] at k101
     rw [q2] at k93
     have h110 := H110.out _ (show Heap.get ⟨0 + 1 + 1, (Mp.nil.set 0 (.var [sa, .int .i64 cxl, .int .i64 cxh, .int .i64 cyl, .int .i64 cyh, .int .i64 wxl, .int .i64 wxh, .int .i64 wyl, .int .i64 wyh, ra])).set (0 + 1) (.var [la])⟩ 0 = some (.var [sa, .int .i64 cxl, .int .i64 cxh, .int .i64 cyl, .int .i64 cyh, .int .i64 wxl, .int .i64 wxh, .int .i64 wyl, .int .i64 wyh, ra]) from rfl)
     rw [q3] at h110
     have HK110 := Lib.hid h110
     simp only [togV, Bool.false_eq_true, if_false]
     clear HTO HSM HSU q1 q2 q3 h110
     repeat' (first | refine goS ?_ | (apply U6; exact Z1; exact Z1; (focus (simp only [List.nil_append, List.append_nil]; first | exact k101 _ | exact k93 _ | exact HK110.out)); simp only [pM, pN, rR, rP]) | refine go2 (fun hh => ?_) (fun hh => ?_) | fail)
     all_goals (simp only [resV_def (X := dX cJD) Tryz.func50, Tryz.results50]; first | exact J5 | refine J6 ?_)
    ·have hst4 := (HSM.out q1).2.1
     have hst1 := (HSM.out q1).1
     have hrl := (HSM.out q1).2.2
     have hl13 : 1 ≤ l.length ∧ l.length ≤ 3 := by
      simp only [inB, Bool.and_eq_true, decide_eq_true_eq] at q2
      omega
     have hall := List.all_eq_true.1 q3
     rw [q1] at k101
     rw [q2] at k93
     have h110 := H110.out _ (show Heap.get ⟨0 + 1 + 1, (Mp.nil.set 0 (.var [sa, .int .i64 cxl, .int .i64 cxh, .int .i64 cyl, .int .i64 cyh, .int .i64 wxl, .int .i64 wxh, .int .i64 wyl, .int .i64 wyh, ra])).set (0 + 1) (.var [la])⟩ 0 = some (.var [sa, .int .i64 cxl, .int .i64 cxh, .int .i64 cyl, .int .i64 cyh, .int .i64 wxl, .int .i64 wxh, .int .i64 wyl, .int .i64 wyh, ra]) from rfl)
     rw [q3] at h110
     have HK110 := Lib.hid h110
     have HALL := Lib.hid (fun b (hm : b ∈ l) => HSU.out b (hall b hm))
     have HBO2 := Lib.hid (show prodL (l.map (ddB st)) ≤ 16000000 by simpa using HBO.out)
     have HPO := Lib.hid (show possB ⟨cxl, cxh⟩ ⟨cyl, cyh⟩ ⟨wxl, wxh⟩ ⟨wyl, wyh⟩ rs = ((boundsS (ax0 ⟨cxl, cxh⟩ ⟨wxl, wxh⟩ rs [])).isSome && (boundsS (ax1 ⟨cyl, cyh⟩ ⟨wyl, wyh⟩ rs [])).isSome) from rfl)
     clear HTO HSM HSU q1 q2 q3 h110 hall
     cases hpo : possB ⟨cxl, cxh⟩ ⟨cyl, cyh⟩ ⟨wxl, wxh⟩ ⟨wyl, wyh⟩ rs with
     | false =>
      have e1 := kn_no (HPO.out.symm.trans hpo)
      have hk := HHK.out
      rw [e1] at hk
      have HK := Lib.hid hk
      simp only [togV, Bool.false_eq_true, if_false, if_true]
      clear hk e1 hpo
      repeat' (first | refine goS ?_ | (apply U6; exact Z1; exact Z1; (focus (simp only [List.nil_append, List.append_nil]; first | exact k101 _ | exact k93 _ | exact HK110.out | exact H102.out _ _ | exact HK.out _ _ rfl)); simp only [pM, pN, rR, rP]) | refine go2 (fun hh => ?_) (fun hh => ?_) | fail)
      all_goals (simp only [resV_def (X := dX cJD) Tryz.func50, Tryz.results50]; first | exact J5 | refine J6 ?_)
     | true =>
      obtain ⟨ka, kb, e1, ou1, ou2, tu1, tu2⟩ := kn_yes (HPO.out.symm.trans hpo)
      have hk := HHK.out
      rw [e1] at hk
      have HK := Lib.hid hk
      simp only [togV, if_true]
      generalize hsres : srchT (posH ⟨cxl, cxh⟩ ⟨cyl, cyh⟩ ⟨wxl, wxh⟩ ⟨wyl, wyh⟩ rs) (l.map (ddB st)) [] [[]] = sres
      have HSR := Lib.hid hsres
      clear hk e1 hpo hsres
      repeat' (first | refine goS ?_ | (apply U6; exact Z1; exact Z1; (focus (simp only [List.nil_append, List.append_nil]; first | exact k101 _ | exact k93 _ | exact HK110.out | exact H102.out _ _ | exact HK.out _ _ rfl)); simp only [pM, pN, rR, rP]) | refine go2 (fun hh => ?_) (fun hh => ?_) | fail)
      refine W.loopN l.length (fun i F => ∃ e lm hp owns av, F = Fr.mk 50 false e lm hp [] none ∧ hp.get 0 = some (.var [sa, .int .i64 cxl, .int .i64 cxh, .int .i64 cyl, .int .i64 cyh, .int .i64 wxl, .int .i64 wxh, .int .i64 wyl, .int .i64 wyh, ra]) ∧ hp.get 1 = some (.var [la]) ∧ hp.get 3 = some (.var [sa, .int .i64 cxl, .int .i64 cxh, .int .i64 cyl, .int .i64 cyh, .int .i64 wxl, .int .i64 wxh, .int .i64 wyl, .int .i64 wyh, ra, .map 2]) ∧ hp.get 4 = some (.var [av]) ∧ 4 < hp.next ∧ Blt hp av 1 owns ∧ ElemsC bxC 4 hp owns ((l.take i).map (ddB st)) ∧
       e.get 2 = some (.ptr 0 0) ∧ e.get 3 = some (.ptr 1 0) ∧ e.get 6 = some (.ptr 3 0) ∧ e.get 9 = some (.ptr 4 0) ∧ e.get 39 = some la ∧ e.get 40 = some (.int .i64 ↑l.length) ∧ e.get 41 = some (.int .i64 ↑i) ∧ i ≤ l.length) ?_ ?_
      ·refine ⟨_, _, _, [], .nilslice, rfl, rfl, rfl, rfl, rfl, by simp only; omega, Blt.nil, ElemsC.nil, ?_, ?_, ?_, ?_, ?_, ?_, ?_, ?_⟩ <;> first | exact Z2 | simp [go_sem, *]
      clear HHK H102 H110 HK110 HK
      rintro i F ⟨e, lm, ⟨qn, qm⟩, owns, av, rfl, g0, g1, g3, g4, hq4, hba, hbo, h2, h3, h6, h9, h39, h40, h41, hi⟩
      have HGS := Lib.hid (And.intro g0 (And.intro g1 (And.intro g3 g4)))
      have HBA0 := Lib.hid hba
      have HBO0 := Lib.hid hbo
      clear hba hbo
      simp only at hq4
      by_cases hlt : i < l.length
      ·have hd : decide ((i : Int) < (l.length : Int)) = true := by simpa using hlt
       have hw := wrap_nat (k := i) (m := l.length) hlt (by omega)
       obtain ⟨b, hbi⟩ := get_some hlt
       have hbm := List.mem_of_getElem? hbi
       have hbok := List.all_eq_true.1 HOK.out b hbm
       have cb := BA.cells hbok
       have hix := but_idx HB.out hbi (by rw [cb]; rfl)
       have qb := BA.ok_is hbok
       have ob := sl_out qb
       obtain ⟨nb, tb⟩ := sl_one qb
       have hhl := (HALL.out b hbm).2.2.1
       have h113 := fun pn pm => C113 cJD rfl sa b.ha b.err st b.holes HL.out qb pn pm
       have HC113 := Lib.hid h113
       have HQB := Lib.hid qb
       have HBI := Lib.hid hbi
       simp only [AV.cells] at cb
       simp only [isTuple] at tb
       have okc : OwnOk (fun (s : List Bx) h => cellI qn 4 (s.map bxC.enc) h ∧ True) (cellO qn) := cell_ok qn 4 (fun (s : List Bx) => s.map bxC.enc) (fun _ => True)
       have i0 : cellI qn 4 (([] : List Bx).map bxC.enc) ⟨qn + 1, qm.set qn (.var [.nilslice])⟩ ∧ True := ⟨⟨by simp only; omega, .nilslice, by rw [hget_set, if_pos rfl], Blt.nil⟩, trivial⟩
       have noOld : ∀ id, id < qn → ¬ cellO qn ⟨qn + 1, qm.set qn (.var [.nilslice])⟩ id := fun id hid => by
        rintro (q | ⟨off, n, q⟩)
        ·omega
        ·rw [hget_set, if_pos rfl] at q
         cases q
       simp only [hp_get] at g0 g1 g3 g4
       have n0 : (qn == 0) = false := beq_eq_false_iff_ne.2 (by omega)
       have n0a : (qn + 1 == 0) = false := beq_eq_false_iff_ne.2 (by omega)
       clear h113 qb hbok
       repeat' (first | (refine W.label ?_; simp only [tN, bN, eN, true_and]) | refine go1 ?_ | (apply U6; exact Z1; exact Z1; (focus (simp only [List.nil_append, List.append_nil]; first | exact HC113.out _ _)); simp only [pM, pN, rR, rP]) | refine go2 (fun hh => ?_) (fun hh => ?_) | fail)
       have X2 : ∀ blk, HExt ⟨qn + 1, qm.set qn (.var [.nilslice])⟩ (Heap.new ⟨qn + 1 + 1 + 1, ((qm.set qn (.var [.nilslice])).set (qn + 1) (.var [sa])).set (qn + 1 + 1) (.var [b.ha, .int .i64 b.err])⟩ blk) := fun blk => by
        refine ⟨by simp only [Heap.new]; omega, fun id hid => ?_⟩
        simp only at hid
        rw [Heap.get_new, if_neg (by simp only; omega), hget_set, if_neg (by omega), hget_set, if_neg (by omega)]
        rfl
       have I2 := fun blk => (okc.ext _ _ _ i0 (X2 blk)).1
       have R2 := fun blk => okc.rel i0 (X2 blk)
       have F2 : ∀ blk id, qn + 1 ≤ id → ¬ cellO qn (Heap.new ⟨qn + 1 + 1 + 1, ((qm.set qn (.var [.nilslice])).set (qn + 1) (.var [sa])).set (qn + 1 + 1) (.var [b.ha, .int .i64 b.err])⟩ blk) id := fun blk id hid ho => by
        have := okc.lt _ _ id i0 ((okc.ext _ _ _ i0 (X2 blk)).2 id ho)
        simp only at this
        omega
       have N2 : ∀ blk, (Heap.new ⟨qn + 1 + 1 + 1, ((qm.set qn (.var [.nilslice])).set (qn + 1) (.var [sa])).set (qn + 1 + 1) (.var [b.ha, .int .i64 b.err])⟩ blk).next = qn + 1 + 1 + 1 + 1 := fun _ => rfl
       have GA : ∀ blk, (Heap.new ⟨qn + 1 + 1 + 1, ((qm.set qn (.var [.nilslice])).set (qn + 1) (.var [sa])).set (qn + 1 + 1) (.var [b.ha, .int .i64 b.err])⟩ blk).get (qn + 1) = some (.var [sa]) := fun blk => by
        rw [Heap.get_new, if_neg (by simp only; omega), hget_set, if_neg (by omega), hget_set, if_pos rfl]
       have GB : ∀ blk, (Heap.new ⟨qn + 1 + 1 + 1, ((qm.set qn (.var [.nilslice])).set (qn + 1) (.var [sa])).set (qn + 1 + 1) (.var [b.ha, .int .i64 b.err])⟩ blk).get (qn + 1 + 1) = some (.var [b.ha, .int .i64 b.err]) := fun blk => by
        rw [Heap.get_new, if_neg (by simp only; omega), hget_set, if_pos rfl]
       have GL : ∀ blk, (Heap.new ⟨qn + 1 + 1 + 1, ((qm.set qn (.var [.nilslice])).set (qn + 1) (.var [sa])).set (qn + 1 + 1) (.var [b.ha, .int .i64 b.err])⟩ blk).get (qn + 1 + 1 + 1) = some blk := fun blk => by
        rw [Heap.get_new, if_pos rfl]
       apply W.rangeEnds (R := stU (fun (s : List Bx) h => cellI qn 4 (s.map bxC.enc) h ∧ True) (fun _ _ => False) (cellO qn) (fun id => id = qn + 1 + 1 + 1) _ (foldS stepJ (boxL b.err st b.holes) []))
       ·exact Z1
       ·have hR : ∀ (y : Bx) (rem : List Bx) (s s' : List Bx), s.length + (y :: rem).length ≤ 192 → stepJ y s = (s', true) → s'.length + rem.length ≤ 192 := by
         intro y rem s s' h e
         simp only [stepJ, Prod.mk.injEq, and_true] at e
         subst e
         simp only [List.length_cons] at h
         have := addU_len s y
         omega
        have hr0 : ([] : List Bx).length + (boxL b.err st b.holes).length ≤ 192 := by
         have := boxL_len (err := b.err) (hs := b.holes) hst4
         simpa using this
        refine G163 (fun (s : List Bx) h => cellI qn 4 (s.map bxC.enc) h ∧ True) (fun _ _ => False) (cellO qn) okc stepJ (fun rem s => s.length + rem.length ≤ 192) hR cJD rfl rfl rfl rfl rfl rfl rfl rfl (qn + 1 + 1 + 1) (qn + 1) (qn + 1 + 1) sa b.ha b.err st b.holes HL.out HQB.out hhl (by omega) (by omega) _ []
         (GA _) (GB _) (by rw [N2]; omega) (by rw [N2]; omega) (by rw [N2]; omega) (F2 _ _ (by omega)) (F2 _ _ (by omega)) (I2 _) hr0 (fun _ _ _ _ _ _ _ _ _ _ _ d => d.elim) ?_
        intro s y rem h1' hrem i3 kx
        have kL := kx.2 (qn + 1 + 1 + 1) (by rw [N2]; omega) (F2 _ _ (by omega))
        have hL := kL.1.trans (GL _)
        have fL := kL.2
        have lL1 : qn + 1 + 1 + 1 < h1'.next := Nat.lt_of_lt_of_le (by rw [N2]; omega) kx.1
        obtain ⟨er, hE, hL⟩ : ∃ er, er = _ ∧ h1'.get (qn + 1 + 1 + 1) = some (.loop 50 er _ _ _ .ready none) := ⟨_, rfl, hL⟩
        have r12 : er.get 12 = some (.ptr qn 0) := by rw [hE, Mp.get_map]; simp [go_sem, *, noBox]
        have HHL := Lib.hid hL
        have HREM := Lib.hid hrem
        have HI3 := Lib.hid i3
        have HFL := Lib.hid fL
        refine round_ok' hL rfl ?_
        clear hE hL kL fL i3 kx X2 I2 R2 F2 N2 GA GB GL h2 h3 h6 h9 h39 h40 h41 g0 g1 g3 g4 hrem hR hr0 n0 n0a i0
        simp only [bxC]
        repeat' (first | refine goS ?_ | refine go2 (fun hh => ?_) (fun hh => ?_) | fail)
        rintro ⟨zn, zm⟩ hzn hzg hzL
        have bi := rnd_in okc HI3.out hzn hzg HFL.out
        have bg : ∀ s4 h', _ → Rel (cellO qn) ⟨zn, zm⟩ h' → _ := fun s4 h' => back_go okc (s4 := s4) (h' := h') HI3.out hzn hzg HHL.out HFL.out lL1
        have lz : qn + 1 + 1 + 1 < zn := by rw [show zn = h1'.next from hzn]; exact lL1
        have HBI2 := Lib.hid bi
        have HBG := Lib.hid bg
        have HZL := Lib.hid hzL
        obtain ⟨⟨hb3, v, gv, bv⟩, _⟩ := bi.1
        have hsl : s.length ≤ 192 := by have := HREM.out; simp only [List.length_cons] at this; omega
        have k114 := K114 (X := dX cJD) rfl v s y ⟨zn, zm⟩ bv (by unfold maxL; omega)
        rw [any_sym] at k114
        have HAD := Lib.hid (addU_def s y)
        have HBV := Lib.hid bv
        have GV := Lib.hid gv
        have ov := bv.out
        have hvn : ∀ id vs, (Heap.mk zn zm).get id = some (.var vs) → ∀ off n, v ≠ .row id off n := fun id vs hg => bv.ne_row (fun z r => by rw [hg]; simp)
        have HVN := Lib.hid hvn
        have hll : s.length + (0 + 1) ≤ most := by unfold most; omega
        simp only [hp_get] at gv
        clear hzn hzg hzL bi bg bv hvn hsl
        generalize (s.any fun p => bxEq p y) = mt at *
        have HK114 := Lib.hid k114
        clear k114
        cases mt with
        | true =>
         repeat' (first | refine goS ?_ | (apply U6; exact Z1; exact Z1; (focus (simp only [List.nil_append, List.append_nil]; first | exact HK114.out)); simp only [pM, pN, rR, rP]) | refine go2 (fun hh => ?_) (fun hh => ?_) | fail)
         rw [roundQ_norm]
         simp only [endV, HZL.out]
         have := HBG.out s _ HBI2.out.1 (Rel.refl _ _)
         exact stR_go (by simp only [stepJ, HAD.out, if_true]) this.1 this.2
        | false =>
         repeat' (first | (apply WO1.appendE (t := 165) (u := 165) (e := 169) (e' := 169) (sz := 4) (tl := []) (hb := HBV.out); exact Z1; exact rfl; exact Z2; exact Z2; exact Z2; (focus (exact ty_row165)); exact Z1; (focus (intro v hv; simp at hv; subst hv; rfl)); (focus (simp only [List.length_map, List.length_cons, List.length_nil]; exact hll)); (focus (simp)); (intro v1 hp1 hB1 ho1 hK1 hE1; have hc1 := hB1.cells; have ht1 := hB1.tup; simp only [AV.cells] at hc1; simp only [isTuple] at ht1; obtain ⟨n1, m1⟩ := hp1; have hg3 := (hK1.2 qn hb3 (HVN.out qn _ GV.out)).trans GV.out; simp only [hp_get] at hg3; have HG3 := Lib.hid hg3; have HK1 := Lib.hid hK1; have HB1 := Lib.hid hB1; have HE1 := Lib.hid hE1; clear hK1 hB1 hE1; simp only [pM, pN])) | refine go1 ?_ | (apply U6; exact Z1; exact Z1; (focus (simp only [List.nil_append, List.append_nil]; first | exact HK114.out)); simp only [pM, pN, rR, rP]) | refine go2 (fun hh => ?_) (fun hh => ?_) | fail)
         rw [roundQ_norm]
         have kL := (HK1.out.2 (qn + 1 + 1 + 1) lz (HBV.out.ne_row (fun z r => by rw [HZL.out]; simp))).trans HZL.out
         simp only [hp_get] at kL
         have d3 : ¬ qn = qn + 1 + 1 + 1 := by omega
         simp only [endV, hp_get, Mp.get_set, d3, if_false, kL]
         refine stR_goJ (s := s ++ [y]) (by simp only [stepJ, HAD.out, Bool.false_eq_true, if_false]) (HBG.out (s ++ [y]) _ ⟨⟨?_, v1, ?_, ?_⟩, trivial⟩ ⟨HK1.out.1, fun id hid ho => ⟨?_, ?_⟩⟩)
         ·exact Nat.lt_of_lt_of_le hb3 HK1.out.1
         ·simp [hp_get, Mp.get_set]
         ·have hne3 : ∀ z r, (Heap.mk n1 m1).get qn ≠ some (.rw z r) := fun z r e => by rw [hp_get, HG3.out] at e; cases e
          rw [show (s ++ [y]).map bxC.enc = s.map bxC.enc ++ [.agg [.int .i64 y.x.lo, .int .i64 y.x.hi, .int .i64 y.y.lo, .int .i64 y.y.hi]] by simp [bxC]]
          exact HB1.out.putv (id := qn) (bl := .var [v1]) hne3
         ·have e3 : ¬ qn = id := fun e => ho (.inl e.symm)
          rw [hp_get, Mp.get_set, if_neg e3]
          exact HK1.out.2 id hid (fun off n e => ho (.inr ⟨off, n, by rw [GV.out, e]⟩))
         ·rintro (q | ⟨off', n', q⟩)
          ·exact ho (.inl q)
          ·rw [hp_get, Mp.get_set, if_pos rfl] at q
           cases q
           have := HE1.out
           cases this
           exact absurd hid (Nat.lt_irrefl _)
       ·intro r hcl hR
        rcases stU_or hR with ⟨s4, h', ex, rfl, i4, kr⟩ | ⟨s4, h', ex, rfl, d4, ke⟩
        ·have kL := kr.2 (qn + 1 + 1 + 1) (by rw [N2]; omega) (F2 _ _ (by omega))
         have hL := kL.1.trans (GL _)
         have hfin := fun bl => fin_go okc (bl := bl) (h0 := ⟨qn + 1, qm.set qn (.var [.nilslice])⟩) (L1 := qn + 1 + 1 + 1) (by simp only; omega) ((R2 _).trans kr) i4 kL.2
         refine W.rangeNorm rfl ?_ hcl hL (fun e => by cases e) ?_
         ·first | exact Z2 | exact Z1
         clear hcl hL
         generalize hput : Heap.put h' _ _ = hz
         have hf : (cellI qn 4 (s4.map bxC.enc) hz ∧ True) ∧ Rel (cellO qn) ⟨qn + 1, qm.set qn (.var [.nilslice])⟩ hz := by rw [← hput]; exact hfin _
         have hs4 : s4 = ddB st b := by
          rw [foldJ] at ex
          exact (congrArg Prod.fst ex).symm
         obtain ⟨zn, zm⟩ := hz
         have hzx : HExt ⟨qn, qm⟩ ⟨zn, zm⟩ := by
          refine ⟨?_, fun id hid => ?_⟩
          ·have := hf.2.1
           simp only at this ⊢
           omega
          ·simp only at hid
           rw [(hf.2.2 id (by simp only; omega) (noOld id hid)).1, hget_set, if_neg (by omega)]
           rfl
         have z0 := (hzx.2 0 (by simp only; omega)).trans HGS.out.1
         have z1 := (hzx.2 1 (by simp only; omega)).trans HGS.out.2.1
         have z3 := (hzx.2 3 (by simp only; omega)).trans HGS.out.2.2.1
         have z4 := (hzx.2 4 (by simp only; omega)).trans HGS.out.2.2.2
         obtain ⟨hbq, ov, gq, bq⟩ := hf.1.1
         rw [hs4] at bq
         have oov := bq.out
         have tov := bq.tup
         have cov := bq.cells
         have hcv : ov.cells.length = 1 := by rw [bq.cells]; rfl
         simp only [AV.cells] at cov
         simp only [isTuple] at tov
         have hba := HBA0.out.ext hzx
         have oav := hba.out
         have hbo := HBO0.out.ext hzx
         have hlo : owns.length + (0 + 1) ≤ most := by
          have := HBO0.out.1
          rw [List.length_map, List.length_take] at this
          unfold most
          omega
         have HBA := Lib.hid hba
         have HBO1 := Lib.hid (hbo.add bq)
         have HZS := Lib.hid (And.intro z0 (And.intro z1 (And.intro z3 z4)))
         have HLT := Lib.hid (show 4 < zn by have := hzx.1; simp only at this; omega)
         have HN4 := Lib.hid (HBA.out.ne_row (id := 4) (fun z r => by rw [HZS.out.2.2.2]; simp))
         simp only [hp_get] at z0 z1 z3 z4 gq
         clear hput hfin hf kL kr ex i4 hR X2 I2 R2 F2 N2 GA GB GL hs4 i0 g0 g1 g3 g4 n0 n0a hba hbo bq noOld okc hzx
         simp only [bN, tN]
         repeat' (first | (refine W.label ?_; simp only [tN, bN, eN, true_and]) | (apply WO1.appendE (t := 164) (u := 164) (e := 165) (e' := 165) (sz := 1) (tl := []) (hb := HBA.out); exact Z1; exact rfl; exact Z2; exact Z2; exact Z2; (focus (exact ty_row164)); exact Z1; (focus (intro x hx; simp only [List.mem_singleton] at hx; subst hx; exact hcv)); (focus (simp only [List.length_cons, List.length_nil]; exact hlo)); (focus (simp)); (intro v1 hp1 hB1 ho1 hK1 hE1; have hc1 := hB1.cells; have ht1 := hB1.tup; simp only [AV.cells] at hc1; simp only [isTuple] at ht1; obtain ⟨n1, m1⟩ := hp1; have hg4 := (hK1.2 4 HLT.out HN4.out).trans HZS.out.2.2.2; simp only [hp_get] at hg4; have HK1 := Lib.hid hK1; have HB1 := Lib.hid hB1; have HE1 := Lib.hid hE1; clear hK1 hB1 hE1; simp only [pM, pN])) | refine go1 ?_ | refine go2 (fun hh => ?_) (fun hh => ?_) | fail)
         have h40 := HK1.out.2 0 (by have := HLT.out; simp only; omega) (HBA.out.ne_row (fun z r => by rw [HZS.out.1]; simp))
         have h41' := HK1.out.2 1 (by have := HLT.out; simp only; omega) (HBA.out.ne_row (fun z r => by rw [HZS.out.2.1]; simp))
         have h43 := HK1.out.2 3 (by have := HLT.out; simp only; omega) (HBA.out.ne_row (fun z r => by rw [HZS.out.2.2.1]; simp))
         have h44 := HK1.out.2 4 (by have := HLT.out; simp only; omega) (HBA.out.ne_row (fun z r => by rw [HZS.out.2.2.2]; simp))
         have hne4 : ∀ z r, (Heap.mk n1 m1).get 4 ≠ some (.rw z r) := fun z r e => by rw [h44, HZS.out.2.2.2] at e; cases e
         refine ⟨hlt, _, _, ⟨n1, m1.set 4 (.var [v1])⟩, owns ++ [ov], v1, rfl, ?_, ?_, ?_, ?_, ?_, HB1.out.putv (id := 4) (bl := .var [v1]) hne4, ?_, ?_, ?_, ?_, ?_, ?_, ?_, ?_, by omega⟩
         ·rw [hget_set, if_neg (by omega)]; exact h40.trans HZS.out.1
         ·rw [hget_set, if_neg (by omega)]; exact h41'.trans HZS.out.2.1
         ·rw [hget_set, if_neg (by omega)]; exact h43.trans HZS.out.2.2.1
         ·rw [hget_set, if_pos rfl]
         ·exact Nat.lt_of_lt_of_le HLT.out HK1.out.1
         ·have e5 : (l.take (i + 1)).map (ddB st) = (l.take i).map (ddB st) ++ [ddB st b] := by rw [take_next HBI.out, List.map_append]; rfl
          rw [e5]
          exact (HBO1.out.other HBA.out (by omega) HK1.out).putv (id := 4) (bl := .var [v1]) hne4
         all_goals exact Z2
        ·exact d4.elim
      ·have hd : decide ((i : Int) < (l.length : Int)) = false := by simpa using hlt
       have htk : l.take i = l := List.take_of_length_le (by omega)
       have hbo := HBO0.out
       rw [htk] at hbo
       have hx1 : HExt ⟨qn, qm⟩ ⟨qn + 1, (qm.set qn (.var [.nilfunc])).set qn (.var [.func (.func 115) [] [.ptr 1 0, .ptr 4 0, .ptr 3 0, .ptr qn 0]])⟩ := by
        refine ⟨by simp only; omega, fun id hid => ?_⟩
        simp only at hid
        rw [hget_set, if_neg (by omega), hget_set, if_neg (by omega)]
        rfl
       have h115 := C115 cJD rfl rfl rfl rfl rfl sa ra (.map 2) la av ⟨cxl, cxh⟩ ⟨cyl, cyh⟩ ⟨wxl, wxh⟩ ⟨wyl, wyh⟩ rs HR.out n2 rfl t2 rfl o2 rfl (by omega) l.length hl13.1 (by omega) ln4 o4 t4 1 4 3 qn owns (l.map (ddB st)) (by rw [List.length_map]) (l.map (ddB st)) [] [[]] .vempty (.vslice [.nilslice]) ⟨qn + 1, (qm.set qn (.var [.nilfunc])).set qn (.var [.func (.func 115) [] [.ptr 1 0, .ptr 4 0, .ptr 3 0, .ptr qn 0]])⟩
        ⟨(hx1.2 1 (by simp only; omega)).trans HGS.out.2.1, (hx1.2 4 (by simp only; omega)).trans HGS.out.2.2.2, (hx1.2 3 (by simp only; omega)).trans HGS.out.2.2.1, by rw [hget_set, if_pos rfl], ⟨by simp only; omega, by simp only; omega, by simp only; omega, by simp only; omega⟩, HBA0.out.ext hx1, hbo.ext hx1⟩
        (.inl ⟨rfl, rfl⟩) ⟨[.nilslice], .inl ⟨rfl, by simp⟩, ⟨rfl, fun k r p h1 h2 => by
         cases k with
         | zero => simp at h1 h2; subst h1 h2; exact Blt.nil
         | succ k => simp at h1⟩⟩ (by rw [List.length_map]; simp) (by simp) (fun w hw => by simp at hw; subst hw; rfl) (by simpa using HBO2.out)
       unfold ClR at h115
       obtain ⟨r2, hsea, hrr⟩ := h115
       unfold tgR at hrr
       obtain ⟨h4, rfl, hk4⟩ := hrr
       have hne := fun s (e : srchT (posH ⟨cxl, cxh⟩ ⟨cyl, cyh⟩ ⟨wxl, wxh⟩ ⟨wyl, wyh⟩ rs) (l.map (ddB st)) [] [[]] = some s) => srchT_ne _ _ _ _ s e (by rw [List.length_map]; simp; omega)
       rw [HSR.out] at hsea hne
       have n1q : (qn == 1) = false := beq_eq_false_iff_ne.2 (by omega)
       simp only [hp_get] at g0 g1 g3 g4
       clear hbo hx1 hk4 htk hlt hi
       cases sres with
       | none =>
        simp only [ansV] at hsea
        have q39 := eq39n
        repeat' (first | (apply U6; exact Z1; exact Z1; (focus (exact hsea)); simp only [pM, pN, rR, rP]) | refine go1 ?_ | refine go2 (fun hh => ?_) (fun hh => ?_) | fail)
        all_goals (simp only [resV_def (X := dX cJD) Tryz.func50, Tryz.results50]; first | exact J5 | refine J6 ?_)
       | some s =>
        have hsn := hne s rfl
        have hsv : slN (natsV s) = .vslice (natsV s) := by
         cases s with
         | nil => exact absurd rfl hsn
         | cons a l => rfl
        simp only [ansV, hsv] at hsea
        simp only [hsv]
        have q39 := eq39v (natsV s)
        clear hsn hne
        repeat' (first | (apply U6; exact Z1; exact Z1; (focus (exact hsea)); simp only [pM, pN, rR, rP]) | refine go1 ?_ | refine go2 (fun hh => ?_) (fun hh => ?_) | fail)
        all_goals (simp only [resV_def (X := dX cJD) Tryz.func50, Tryz.results50]; first | exact J5 | refine J6 ?_)
   ·cases h
  ·cases h
 ·cases h
end Go.AM
namespace Go.AM
open Go
variable [Keep]
theorem WO1.gund {X : Ctx} {ops : Array Oper} {K P : AV → Fr → Prop} {F : Fr} {d : Option Tmp} {op : Op} {T : TypeId} {p : String} {af : Array Edge} {j : Nat} {want : Bool} {o : Oper} {t : Tmp} (ho : ops[j]? = some o) (ht : o.dst = some t) (hb : F.e.get t = some undefA) (h : K undefA (F.put d undefA)) : WO1 X ops ⟨d, op, T, p, af, some (j, want)⟩ F K P :=
 ⟨.val undefA (F.put d undefA), ⟨0, fun m _ => by simp [stepOp, guardOk, wantedA, yieldedA, ho, ht, hb, undefA]⟩, h⟩
end Go.AM
