/-
  A part of the proof: contracts of functions.
-/
import Derived.Test.YtlhcjccaimmhgaaGreatDoorUAS
import Derived.Test.YtlhcjccaimmhgaaGreatDoorUAP
set_option linter.unusedSectionVars false
set_option linter.unusedVariables false
set_option linter.unusedSimpArgs false
set_option maxRecDepth 100000
namespace Go.AM
open Go Go.Proofs
variable [Keep]
attribute [local irreducible] W WO WO1 WD WQ WT thenQ blockQ endR isRet retK Cl ClR
attribute [local irreducible] isNew roundQ RdR boundsS machB boxL suitB posH clS clN tgR addU refBoxes bothV minT
def dRwsJ : FuncId → List Tmp
 | 119 => [102]
 | f => dRws f
noncomputable def dXJ (intr : Itr) : Ctx := { P := Tryz.prog, hts := dHts, rws := dRwsJ, frz := dFrz, intr }
theorem dXJ_sound {intr : Itr} (h : ∀ f g, intr f = some g → IntrFn Tryz.prog f g) : Sound (dXJ intr) := ⟨d_num, d_mix, h⟩
theorem dXJ_P (intr : Itr) : (dXJ intr).P = Tryz.prog := rfl
theorem dXJ_hts (intr : Itr) : (dXJ intr).hts = dHts := rfl
theorem dXJ_rws (intr : Itr) : (dXJ intr).rws = dRwsJ := rfl
theorem dXJ_frz (intr : Itr) : (dXJ intr).frz = dFrz := rfl
theorem dRwsJ_a : dRwsJ 119 = [102] := rfl
attribute [go_sem] dXJ_P dXJ_hts dXJ_rws dXJ_frz dRwsJ_a
section
variable {X : Ctx} {ops : Array Oper} {K P : AV → Fr → Prop} {F : Fr} {d : Option Tmp} {T : TypeId} {p : String} {af : Array Edge}
theorem WO1.lit {s : Tmp} {t e : TypeId} {n sz : Nat} {ps : Array (Nat × Operand)} {l : List AV} (he : isEffAt X F.f ⟨some s, .buildSlice t n ps, T, p, af, none⟩ = true) (hel : elemT X.P t = some e) (hs : szT X.P e = sz) (hv : rdV X F (some s) (.buildSlice t n ps) = some (.vslice l))
  (h : K (.row F.hp.next 0 l.length) (({ F with hp := F.hp.new (.rw sz l) } : Fr).put (some s) (.row F.hp.next 0 l.length))) : WO1 X ops ⟨some s, .buildSlice t n ps, T, p, af, none⟩ F K P := by
 subst hs
 have hv : F.buildSliceV X.P t n ps.toList = some (.vslice l) := hv
 refine U5 (v := .row F.hp.next 0 l.length) (F' := { F with hp := F.hp.new (.rw (szT X.P e) l) }) he (fun cl rd => ?_) h
 simp only [efV, Fr.rowE, hel, hv]
theorem WO1.appendZ {args : Array Operand} {at_ : Array TypeId} {t u e e' : TypeId} {tl : List TypeId} {sz id : Nat} {y : AV} {l l0 : List AV} (hargs : F.opvs args.toList = some [.row id 0 l0.length, y]) (ht : at_.toList = t :: u :: tl) (hu : X.P.underlying u = some (.slice e'))
  (hel : elemT X.P t = some e) (hs : szT X.P e = sz) (hrow : rowable X.P e = true) (hy : F.hp.elems y = some l) (hsz : ∀ v ∈ l, v.cells.length = sz) (hlen : l0.length + l.length ≤ most) (hg : F.hp.get id = some (.rw sz l0)) (hid : id < F.hp.next) (hne : l0 ≠ [])
  (h : ∀ v' h', BltN id h' v' sz (l0 ++ l) → outV (some v') = some v' → (F.hp.next ≤ h'.next ∧ ∀ j, j < id → h'.get j = F.hp.get j) → K v' (({ F with hp := h' } : Fr).put d v')) : WO1 X ops ⟨d, .call ⟨.builtin .append, args, at_⟩, T, p, af, none⟩ F K P := by
 subst hs
 by_cases hl : l = []
 ·subst hl
  refine U5 (v := .row id 0 l0.length) (F' := F) rfl (fun cl rd => ?_) ?_
  ·simp only [efV, Fr.callOp, Fr.builtinE, Fr.appendE, ht, hargs, hu]
   have e1 : appendV X.P F t (.row id 0 l0.length) [] = some (.row id 0 l0.length, F) := by simp [appendV, hel, hrow]
   cases y <;> first | (simp only [hy, e1, okO]; done) | simp [Heap.elems] at hy
  ·refine h _ F.hp ?_ rfl ⟨Nat.le_refl _, fun _ _ => rfl⟩
   rw [List.append_nil]
   exact .inr ⟨id, rfl, hg, Nat.le_refl _, hid, hne⟩
 ·have h1 : (l.all fun v => v.cells.length == szT X.P e) = true := List.all_eq_true.2 fun v hv => by simpa using hsz v hv
  have h2 : ¬ l.length = 0 := by simpa using hl
  have e1 : appendV X.P F t (.row id 0 l0.length) l = some (.row F.hp.next 0 (l0.length + l.length), { F with hp := (F.hp.del id).new (.rw (szT X.P e) (l0.drop 0 ++ l)) }) := by
   simp [appendV, hel, h1, hrow, h2, hg, hlen, hl]
  refine U5 (v := .row F.hp.next 0 (l0.length + l.length)) (F' := { F with hp := (F.hp.del id).new (.rw (szT X.P e) (l0.drop 0 ++ l)) }) rfl (fun cl rd => ?_) ?_
  ·simp only [efV, Fr.callOp, Fr.builtinE, Fr.appendE, ht, hargs, hu]
   cases y <;> first | (simp only [hy, e1, okO]; done) | simp [Heap.elems] at hy
  ·refine h _ _ ?_ rfl ⟨Nat.le_succ _, fun j hj => ?_⟩
   ·refine .inr ⟨F.hp.next, by rw [List.length_append], ?_, Nat.le_of_lt hid, Nat.lt_succ_self _, by simp [hl]⟩
    rw [Heap.get_new, if_pos (show (F.hp.del id).next = F.hp.next from rfl), List.drop_zero]
   ·rw [Heap.get_new, if_neg (show ¬ (F.hp.del id).next = j from fun e => by have e : F.hp.next = j := e; omega), Heap.get_del, if_neg (by omega)]
end
def refTV : Option (List Nat) → AV
 | none => .tuple [.nilslice, .bool false]
 | some s => .tuple [slN (natsV s), .bool true]
def rfR (h : Heap) (o : Option (List Nat)) (r : COut) : Prop := ∃ h', r = .ret (refTV o) h' none ∧ HExt h h'
theorem rfR_fail {h : Heap} {o : Option (List Nat)} : ¬ rfR h o .fail := by rintro ⟨_, e, _⟩; cases e
theorem rfR_ret {h h' : Heap} {v : AV} {o : Option (List Nat)} (e : v = refTV o) (k : HExt h h') : rfR h o (.ret v h' none) := ⟨h', by rw [e], k⟩
attribute [local irreducible] rfR
def gT (pos : List Held → Bool) (r : List (List Bx)) (w : List Held) (used : List Nat) (i : Nat) (y : Bx) : Option (List Nat) := if pos (w ++ [heldB (i + 1) y]) then refT pos r (w ++ [heldB (i + 1) y]) (used ++ [i + 1]) else none
def stpR (pos : List Held → Bool) (bs : List Bx) (r : List (List Bx)) (w : List Held) (used : List Nat) (i : Nat) : Option (List Nat) := if used.contains (i + 1) then none else (minT (bs.filterMap (gT pos r w used i))).map ((i + 1) :: ·)
theorem refT_cons (pos : List Held → Bool) (bs : List Bx) (r : List (List Bx)) (w : List Held) (used : List Nat) : refT pos (bs :: r) w used = (List.range 12).findSome? (stpR pos bs r w used) := rfl
theorem minT_next (l : List (List Nat)) (x : List Nat) : minT (l ++ [x]) = match minT l with | none => some x | some b => if lexB x b then some x else some b := by
 unfold minT
 rw [List.foldl_append]
 rfl
theorem refT_len {pos : List Held → Bool} {bss : List (List Bx)} {w : List Held} {used t : List Nat} (h : refT pos bss w used = some t) : t.length = bss.length := (feas_is pos bss w used t ((refT_spec pos bss w used).2 t h).1).1
theorem minT_nil : minT [] = none := by unfold minT; rfl
theorem gT_next {pos : List Held → Bool} {r : List (List Bx)} {w : List Held} {used : List Nat} {i j : Nat} {bs : List Bx} {y : Bx} (h : bs[j]? = some y) : (bs.take (j + 1)).filterMap (gT pos r w used i) = (bs.take j).filterMap (gT pos r w used i) ++ (gT pos r w used i y).toList := by
 rw [take_next h, List.filterMap_append]
 cases q : gT pos r w used i y <;> simp [q]
theorem posH_def (cx cy wx wy : Sp) (rs : List Rdg) (ms : List Held) : ((boundsS (ax0 cx wx rs ms)).isSome && (boundsS (ax1 cy wy rs ms)).isSome) = posH cx cy wx wy rs ms := by unfold posH; rfl
def nxtB (o : Option (List Nat)) (s : List Nat) : Option (List Nat) := match o with | none => some s | some b => if lexB s b then some s else some b
def isN (u : AV) (o : Option (List Nat)) : Prop := match o with
 | some s => u = slN (natsV s)
 | none => u = .nilslice
theorem isN_out {u : AV} {o : Option (List Nat)} (h : isN u o) : outV (some u) = some u ∧ isTuple u = false := by
 cases o with
 | none => cases h; exact ⟨rfl, rfl⟩
 | some s => rw [show u = slN (natsV s) from h]; exact ⟨(slN_is _).out, (slN_is _).tup⟩
theorem cut70 {l : List BA} {la : AV} (h : slV butC la = some l) {b : BA} {l' : List BA} (e : l = b :: l') (hc : b.ha.cells.length = 1) : ∃ wl, (∀ H, sliceV Tryz.prog H 70 la (some (some (.int .i64 1))) none none = some wl) ∧ slV butC wl = some l' := by
 have hm := (slV_is h).2
 rcases (slV_is h).1 with ⟨_, e1⟩ | e1
 ·rw [e] at e1; cases e1
 ·subst e1
  subst e
  refine ⟨.vslice (l'.map butC.enc), fun H => ?_, slV_mk (.inr rfl) (by simp only [List.length_cons] at hm; omega)⟩
  have hb : boundsV ((b :: l').map butC.enc).length (some (some (.int .i64 1))) none none = some (1, ((b :: l').map butC.enc).length, false) := by
   rw [List.length_map, List.length_cons]
   have h1 : (0 : Int) ≤ 1 ∧ (1 : Int) ≤ ((l'.length + 1 : Nat) : Int) := by omega
   simp only [boundsV, boundV, h1, and_self, if_true]
   rfl
  have hh : headOk 2 ((b :: l').map butC.enc) = true := rfl
  simp only [sliceV, Tryz.underlying70, ty_lay77, lenS, hb, cutV, Bool.false_eq_true, if_false, hh, if_true]
  rw [List.take_length]
  rfl
theorem any_used (used : List Nat) (n : Nat) : used.any (fun v => (v : Int) == ((n : Nat) : Int)) = used.contains n := by
 induction used with
 | nil => rfl
 | cons a l ih =>
  rw [List.any_cons, List.contains_cons, ih]
  congr 1
  rw [Bool.eq_iff_iff]
  simp
  omega
set_option maxHeartbeats 16000000 in
theorem C119 (c : Itr) (hc : c 119 = none) (hc37 : c 37 = some (pureFn sp37)) (hc105 : c 105 = some (pureFn sp105)) (hc109 : c 109 = some (pureFn sp109)) (hc120 : c 120 = some (pureFn sp120))
  (sa ra : AV) (st : List Pt) (cx cy wx wy : Sp) (rs : List Rdg) (hl : slV ptC sa = some st) (hr : slV rdgC ra = some rs) (hmb : machB st cx cy wx wy rs = true) :
  ∀ (l : List BA) (la mv uv : AV) (w : List Held) (used : List Nat) (h : Heap), slV butC la = some l → l.all BA.ok = true → (∀ b ∈ l, suitB true st b.holes b.err = true) → slV heldC mv = some (marksOf rs ++ w) → (∀ m ∈ w, HeldOk m) → Blt h uv 1 (natsV used) → used.length + l.length ≤ 900 → w.length + l.length ≤ 900 →
   ClR (dXJ c) 119 [.agg [sa, .int .i64 cx.lo, .int .i64 cx.hi, .int .i64 cy.lo, .int .i64 cy.hi, .int .i64 wx.lo, .int .i64 wx.hi, .int .i64 wy.lo, .int .i64 wy.hi, ra], la, mv, uv] h (rfR h (refT (posH cx cy wx wy rs) (l.map (ddB st)) w used)) := by
 have hms := mach_small hmb
 have o2 := sl_out hl
 have o3 := sl_out hr
 obtain ⟨n2, t2⟩ := sl_one hl
 obtain ⟨n3, t3⟩ := sl_one hr
 have c2 : sa.cells = [sa] := (slV_is hl).1.cells
 have c3 : ra.cells = [ra] := (slV_is hr).1.cells
 simp only [AV.cells] at c2 c3
 simp only [isTuple] at t2 t3
 intro l
 induction l with
 | nil =>
  intro la mv uv w used h hb hok hsu hmk hw hu h1 h2
  have o4 := sl_out hb
  have l4 := sl_len hb
  have o5 := sl_out hmk
  have o6 := hu.out
  have t4 := (sl_one hb).2
  have z : (((0 : Nat) : Int) == 0) = true := rfl
  simp only [isTuple] at t4
  simp only [List.length_nil] at l4
  clear hb hok hsu hmk hw hu h1 h2 hl hr hmb
  refine ClR.walk (c := _) hc Tryz.func119 rfl (by kernel_rfl) rfl rfR_fail ?_
  simp only [entryEnv, Nat.reduceAdd]
  repeat' (first | refine goS ?_ | refine go2 (fun hh => ?_) (fun hh => ?_) | fail)
  all_goals (simp only [resV_def (X := dXJ c) Tryz.func119, Tryz.results119]; first | exact J5 | refine J6 ?_)
  exact rfR_ret rfl (HExt.refl _)
 | cons b l ih =>
  intro la mv uv w used h hb hok hsu hmk hw hu h1 h2
  have o4 := sl_out hb
  have l4 := sl_len hb
  have o5 := sl_out hmk
  have t5 := (sl_one hmk).2
  have o6 := hu.out
  have l6 := hu.len
  have t6 := hu.tup
  rw [natsV_len] at l6
  have t4 := (sl_one hb).2
  have hbok := List.all_eq_true.1 hok b (by simp)
  have cb := BA.cells hbok
  have qb := BA.ok_is hbok
  have ob := sl_out qb
  obtain ⟨nb, tb⟩ := sl_one qb
  have hcb : b.ha.cells.length = 1 := by rw [cb]; rfl
  have hix : ∀ H, indexAddrV Tryz.prog H 70 la (.int .i64 0) = some (.vptr [b.ha, .int .i64 b.err]) := fun H => by simpa using but_idx hb (k := 0) (m := b) rfl hcb H
  obtain ⟨wl, hcut, hwl⟩ := cut70 hb rfl hcb
  have owl := sl_out hwl
  have hsb := hsu b (by simp)
  have hsb2 : suitB (machB st cx cy wx wy rs) st b.holes b.err = true := by rw [hmb]; exact hsb
  obtain ⟨_, _, hhl, _, _, _⟩ := suit_small hsb2
  have k109 := fun h => K109 (X := dXJ c) hc109 sa ra b.ha st b.holes rs cx cy wx wy b.err hl hr qb ⟨hhl, by omega, by omega⟩ h
  obtain ⟨p1, p2, p3, p4, p5⟩ := suit_pts hsb2
  have hdd : refBoxes b.err st b.holes 8 = ddB st b := refBoxes_dd p1 p2 p3 p4 p5
  have hbd := (any_ref hsb2 fun _ => true).2
  have hbl : (refBoxes b.err st b.holes 8).length ≤ 192 := refBoxes_lenB b.err hms.2.1 8
  rw [hdd] at k109 hbd hbl
  have z : (((l.length + 1 : Nat) : Int) == 0) = false := by simp; omega
  rw [List.length_cons] at l4
  rw [List.map_cons, refT_cons]
  generalize ddB st b = bxs at *
  have hba := slN_is (bxs.map markE)
  have oba := hba.out
  have lba := hba.len
  have tba := hba.tup
  rw [List.length_map] at lba
  simp only [isTuple] at t4 t5 t6 tb tba
  simp only [AV.cells] at cb
  generalize hres : (List.range 12).findSome? (stpR (posH cx cy wx wy rs) bxs (l.map (ddB st)) w used) = res
  have HRES := Lib.hid hres
  have IH := Lib.hid (fun mv' uv' w' used' h' q1 q2 q3 q4 q5 => ih wl mv' uv' w' used' h' hwl (by simp only [List.all_cons, Bool.and_eq_true] at hok; exact hok.2) (fun x hx => hsu x (by simp [hx])) q1 q2 q3 q4 q5)
  have HK109 := Lib.hid k109
  have HBD := Lib.hid hbd
  have HBL := Lib.hid hbl
  have HMK := Lib.hid hmk
  have HW := Lib.hid hw
  have HU := Lib.hid hu
  have HH1 := Lib.hid h1
  have HH2 := Lib.hid h2
  have HL := Lib.hid hl
  have HR := Lib.hid hr
  have HMB := Lib.hid hmb
  have HRS4 := Lib.hid hms.2.2
  clear hb hok hsu hmk hw hu h1 h2 hbok qb hcb hsb hsb2 k109 hdd hbd hbl hba hres ih hwl p1 p2 p3 p4 p5 hhl hms
  refine ClR.walk (c := _) hc Tryz.func119 rfl (by kernel_rfl) rfl rfR_fail ?_
  simp only [entryEnv, Nat.reduceAdd]
  repeat' (first | (apply W.drawQ (id := 3) (l1 := [0, 1, 2, 3, 4, 5]) (l2 := []); kernel_rfl; kernel_rfl; kernel_rfl; exact Z4) | refine go1 ?_ | (apply U6; exact Z1; exact Z1; (focus (simp only [List.nil_append, List.append_nil]; first | exact HK109.out _)); simp only [pM, pN, rR, rP]) | refine go2 (fun hh => ?_) (fun hh => ?_) | fail)
  refine W.loopN 12 (fun k F => ∃ e lm hp, F = Fr.mk 119 false e lm hp [] none ∧ HExt h hp ∧ (∀ i, i < k → stpR (posH cx cy wx wy rs) bxs (l.map (ddB st)) w used i = none) ∧
   lm.get 4 = some (0, [sa, .int .i64 cx.lo, .int .i64 cx.hi, .int .i64 cy.lo, .int .i64 cy.hi, .int .i64 wx.lo, .int .i64 wx.hi, .int .i64 wy.lo, .int .i64 wy.hi, ra]) ∧ e.get 1 = some la ∧ e.get 2 = some mv ∧ e.get 3 = some uv ∧ e.get 4 = some (.lptr 4 0 0) ∧ e.get 10 = some (slN (bxs.map markE)) ∧ e.get 11 = some (.int .i64 ↑(k + 1)) ∧ k ≤ 12) ?_ ?_
  ·refine ⟨_, _, _, rfl, HExt.refl _, fun i hi => absurd hi (by omega), ?_, ?_, ?_, ?_, ?_, ?_, ?_, ?_⟩ <;> first | exact Z2 | simp [go_sem, *]
  clear hix
  rintro k F ⟨e, lm, hp, rfl, hx, hno, l4', e1, e2, e3, e4, e10, e11, hk⟩
  have HX := Lib.hid hx
  have HNO := Lib.hid hno
  clear hno
  by_cases hlt : k < 12
  ·have hd : decide (((k + 1 : Nat) : Int) ≤ 12) = true := by simp; omega
   have hw : IntKind.i64.wrap (((k + 1 : Nat) : Int) + 1) = ((k + 1 + 1 : Nat) : Int) := wrap_nat (k := k + 1) (m := 14) (by omega) (by omega)
   have HLT := Lib.hid hlt
   have HST := Lib.hid (show stpR (posH cx cy wx wy rs) bxs (l.map (ddB st)) w used k = if used.contains (k + 1) then none else (minT (bxs.filterMap (gT (posH cx cy wx wy rs) (l.map (ddB st)) w used k))).map ((k + 1) :: ·) from rfl)
   have hfin : stpR (posH cx cy wx wy rs) bxs (l.map (ddB st)) w used k = none → ∀ i, i < k + 1 → stpR (posH cx cy wx wy rs) bxs (l.map (ddB st)) w used i = none := fun e1 i hi => by
    rcases Nat.lt_or_ge i k with q | q
    ·exact HNO.out i q
    ·obtain rfl : i = k := by omega
     exact e1
   have HFIN := Lib.hid hfin
   clear hfin hlt hk hx
   repeat' (first | refine goS ?_ | refine go2 (fun hh => ?_) (fun hh => ?_) | fail)
   refine W.loopN used.length (fun j F => ∃ e, F = Fr.mk 119 false e lm hp [] none ∧ e.get 12 = some (.bool ((used.take j).any (fun v => (v : Int) == ((k + 1 : Nat) : Int)))) ∧ e.get 13 = some (.int .i64 ↑j) ∧
    lm.get 4 = some (0, [sa, .int .i64 cx.lo, .int .i64 cx.hi, .int .i64 cy.lo, .int .i64 cy.hi, .int .i64 wx.lo, .int .i64 wx.hi, .int .i64 wy.lo, .int .i64 wy.hi, ra]) ∧ e.get 1 = some la ∧ e.get 2 = some mv ∧ e.get 3 = some uv ∧ e.get 4 = some (.lptr 4 0 0) ∧ e.get 10 = some (slN (bxs.map markE)) ∧ e.get 11 = some (.int .i64 ↑(k + 1)) ∧ j ≤ used.length) ?_ ?_
   ·refine ⟨_, rfl, ?_, ?_, ?_, ?_, ?_, ?_, ?_, ?_, ?_, ?_⟩ <;> first | (simp only [List.take_zero, List.any_nil, go_sem, *, Nat.reduceLT, Int.reduceEq, Int.reduceBEq, Int.reduceLE, Int.reduceLT, Nat.reduceAdd, Nat.reduceBEq, Nat.reduceEqDiff, reduceIte, Nat.reduceLeDiff, Nat.reduceMul, Nat.reduceSub, reduceCtorEq]; done) | simp [go_sem, *]
   clear e1 e2 e3 e4 e10 e11 hd
   rintro j F ⟨e, rfl, e12, e13, _, e1, e2, e3, e4, e10, e11, hj⟩
   by_cases hjl : j < used.length
   ·have hd : decide ((j : Int) < (used.length : Int)) = true := by simpa using hjl
    have hw3 := wrap_nat (k := j) (m := used.length) hjl (by have := HH1.out; simp only [List.length_cons] at this; omega)
    obtain ⟨v, hv⟩ := get_some hjl
    obtain ⟨id, hidx, hgr⟩ := (HU.out.ext HX.out).idx (P := Tryz.prog) (t := 39) (e := 3) (ag := false) Tryz.underlying39 ty_lay3 (k := j) (by rw [natsV_len]; exact hjl)
    have hav := nat_at' hv
    have hnx : (used.take (j + 1)).any (fun v => (v : Int) == ((k + 1 : Nat) : Int)) = ((used.take j).any (fun v => (v : Int) == ((k + 1 : Nat) : Int)) || ((v : Int) == ((k + 1 : Nat) : Int))) := by
     rw [take_next hv, List.any_append]
     simp
    have HNX := Lib.hid hnx
    have HJL := Lib.hid hjl
    clear hv hnx hjl hj
    generalize (used.take j).any (fun v => (v : Int) == ((k + 1 : Nat) : Int)) = mt at *
    cases mt
    all_goals (
     repeat' (first | refine goS ?_ | refine go2 (fun hh => ?_) (fun hh => ?_) | fail)
     refine ⟨HJL.out, _, rfl, ?_, ?_, ?_, ?_, ?_, ?_, ?_, ?_, ?_, by have := HJL.out; omega⟩
     ·rw [HNX.out]; simp only [Bool.true_or, Bool.false_or, go_sem, *, Nat.reduceLT, Int.reduceEq, Int.reduceBEq, Int.reduceLE, Int.reduceLT, Nat.reduceAdd, Nat.reduceBEq, Nat.reduceEqDiff, reduceIte, Nat.reduceLeDiff, Nat.reduceMul, Nat.reduceSub, reduceCtorEq]
     all_goals first | exact Z2 | assumption)
   ·have hd : decide ((j : Int) < (used.length : Int)) = false := by simpa using hjl
    have hjj : used.take j = used := List.take_of_length_le (by omega)
    rw [hjj, any_used] at e12
    clear hjj hjl hj
    cases hct : used.contains (k + 1) with
    | true =>
     rw [hct] at e12
     have hst : stpR (posH cx cy wx wy rs) bxs (l.map (ddB st)) w used k = none := by rw [HST.out, hct]; rfl
     have HS2 := Lib.hid hst
     clear hst hct
     repeat' (first | refine goS ?_ | refine go2 (fun hh => ?_) (fun hh => ?_) | fail)
     refine W.loopN 1 (fun i F => ∃ e, F = Fr.mk 119 false e lm hp [] none ∧ i = 0 ∧ e.get 12 = some (.bool true) ∧ e.get 14 = some .nilslice ∧ e.get 15 = some (.bool false) ∧ e.get 16 = some (.int .i64 0) ∧
      lm.get 4 = some (0, [sa, .int .i64 cx.lo, .int .i64 cx.hi, .int .i64 cy.lo, .int .i64 cy.hi, .int .i64 wx.lo, .int .i64 wx.hi, .int .i64 wy.lo, .int .i64 wy.hi, ra]) ∧ e.get 1 = some la ∧ e.get 2 = some mv ∧ e.get 3 = some uv ∧ e.get 4 = some (.lptr 4 0 0) ∧ e.get 10 = some (slN (bxs.map markE)) ∧ e.get 11 = some (.int .i64 ↑(k + 1))) ?_ ?_
     ·refine ⟨_, rfl, rfl, ?_, ?_, ?_, ?_, ?_, ?_, ?_, ?_, ?_, ?_, ?_⟩ <;> first | exact Z2 | simp [go_sem, *]
     clear e1 e2 e3 e4 e10 e11 e12 e13 hd
     rintro i F ⟨e, rfl, rfl, e12, e14, e15, e16, _, e1, e2, e3, e4, e10, e11⟩
     have hd : decide ((0 : Int) < (bxs.length : Int)) = true ∨ decide ((0 : Int) < (bxs.length : Int)) = false := by cases decide ((0 : Int) < (bxs.length : Int)) <;> simp
     rcases hd with hd | hd
     all_goals (
      repeat' (first | refine goS ?_ | refine go2 (fun hh => ?_) (fun hh => ?_) | fail)
      refine ⟨HLT.out, _, _, hp, rfl, HX.out, HFIN.out HS2.out, ?_, ?_, ?_, ?_, ?_, ?_, ?_, by have := HLT.out; omega⟩
      all_goals first | exact Z2 | assumption)
    | false =>
     rw [hct] at e12
     have hst : stpR (posH cx cy wx wy rs) bxs (l.map (ddB st)) w used k = (minT (bxs.filterMap (gT (posH cx cy wx wy rs) (l.map (ddB st)) w used k))).map ((k + 1) :: ·) := by rw [HST.out, hct]; rfl
     have HS2 := Lib.hid hst
     clear hst hct
     repeat' (first | refine goS ?_ | refine go2 (fun hh => ?_) (fun hh => ?_) | fail)
     refine W.loopN bxs.length (fun i F => ∃ e lm hp u o, F = Fr.mk 119 false e lm hp [] none ∧ HExt h hp ∧ o = minT ((bxs.take i).filterMap (gT (posH cx cy wx wy rs) (l.map (ddB st)) w used k)) ∧ isN u o ∧ e.get 12 = some (.bool false) ∧ e.get 14 = some u ∧ e.get 15 = some (.bool o.isSome) ∧ e.get 16 = some (.int .i64 ↑i) ∧
      lm.get 4 = some (0, [sa, .int .i64 cx.lo, .int .i64 cx.hi, .int .i64 cy.lo, .int .i64 cy.hi, .int .i64 wx.lo, .int .i64 wx.hi, .int .i64 wy.lo, .int .i64 wy.hi, ra]) ∧ e.get 1 = some la ∧ e.get 2 = some mv ∧ e.get 3 = some uv ∧ e.get 4 = some (.lptr 4 0 0) ∧ e.get 10 = some (slN (bxs.map markE)) ∧ e.get 11 = some (.int .i64 ↑(k + 1)) ∧ i ≤ bxs.length) ?_ ?_
     ·refine ⟨_, _, hp, .nilslice, none, rfl, HX.out, minT_nil.symm, rfl, ?_, ?_, ?_, ?_, ?_, ?_, ?_, ?_, ?_, ?_, ?_, ?_⟩ <;> first | (simp only [Option.isSome_none, go_sem, *, Nat.reduceLT, Int.reduceEq, Int.reduceBEq, Int.reduceLE, Int.reduceLT, Nat.reduceAdd, Nat.reduceBEq, Nat.reduceEqDiff, reduceIte, Nat.reduceLeDiff, Nat.reduceMul, Nat.reduceSub, reduceCtorEq]; done) | simp [go_sem, *]
     clear e1 e2 e3 e4 e10 e11 e12 e13 hd HX l4'
     rintro i F ⟨e, lm, hp, u, o, rfl, hx, ho, hu, e12, e14, e15, e16, l4', e1, e2, e3, e4, e10, e11, hi⟩
     have HX := Lib.hid hx
     have HO := Lib.hid ho
     have HIU := Lib.hid hu
     obtain ⟨ou, tu⟩ := isN_out hu
     simp only [isTuple] at tu
     clear ho hu hx
     by_cases hil : i < bxs.length
     ·have hd : decide ((i : Int) < (bxs.length : Int)) = true := by simpa using hil
      have hw3 := wrap_nat (k := i) (m := bxs.length) hil (by have := HBL.out; omega)
      obtain ⟨y, hy⟩ := get_some hil
      have hix2 := fun H => mkE_idx hy H
      have k120 := K120 (X := dXJ c) hc120 mv (marksOf rs ++ w) 0 ((k + 1 : Nat) : Int) y HMK.out (by rw [List.length_append]; have := HH2.out; have := HRS4.out; simp [marksOf]; omega) hp
      have hap : marksOf rs ++ w ++ [Held.mk ((k + 1 : Nat) : Int) y.x y.y] = marksOf rs ++ (w ++ [heldB (k + 1) y]) := by rw [List.append_assoc]; rfl
      rw [hap] at k120
      have hhm : ∀ m ∈ w ++ [heldB (k + 1) y], HeldOk m := fun m hm => by
       rcases List.mem_append.1 hm with q | q
       ·exact HW.out m q
       ·simp only [List.mem_singleton] at q
        subst q
        exact held_box (by have := HLT.out; omega) (HBD.out y (List.mem_of_getElem? hy))
      have hsl : slV heldC (slN ((marksOf rs ++ (w ++ [heldB (k + 1) y])).map heldC.enc)) = some (marksOf rs ++ (w ++ [heldB (k + 1) y])) := slV_slN (by rw [List.length_append, List.length_append]; have := HH2.out; have := HRS4.out; simp [marksOf]; unfold maxL; omega)
      obtain ⟨ka, kb, ek, oka, okb, tka, tkb, _⟩ := bothV_held HMB.out hhm
      have k105 := K105 (X := dXJ c) hc105 sa ra _ st rs _ cx cy wx wy HL.out HR.out hsl (held_blk HMB.out hhm) hp
      rw [ek] at k105
      have hpos : ((boundsS (ax0 cx wx rs (w ++ [heldB (k + 1) y]))).isSome && (boundsS (ax1 cy wy rs (w ++ [heldB (k + 1) y]))).isSome) = posH cx cy wx wy rs (w ++ [heldB (k + 1) y]) := posH_def _ _ _ _ _ _
      rw [hpos] at k105
      have onx := sl_out hsl
      have tnx := (sl_one hsl).2
      have hgt : gT (posH cx cy wx wy rs) (l.map (ddB st)) w used k y = if posH cx cy wx wy rs (w ++ [heldB (k + 1) y]) then refT (posH cx cy wx wy rs) (l.map (ddB st)) (w ++ [heldB (k + 1) y]) (used ++ [k + 1]) else none := rfl
      have hnx := gT_next (pos := posH cx cy wx wy rs) (r := l.map (ddB st)) (w := w) (used := used) (i := k) hy
      rw [hgt] at hnx
      have HNX := Lib.hid hnx
      have HHM := Lib.hid hhm
      have HSL := Lib.hid hsl
      have HIL := Lib.hid hil
      simp only [isTuple] at tka tkb tnx
      generalize slN ((marksOf rs ++ (w ++ [heldB (k + 1) y])).map heldC.enc) = nx at *
      have HK120 := Lib.hid k120
      have HK105 := Lib.hid k105
      clear hy k120 hap hhm hsl ek k105 hpos hgt hnx hil hi
      generalize posH cx cy wx wy rs (w ++ [heldB (k + 1) y]) = pb at *
      cases pb with
      | false =>
       repeat' (first | (refine WO1.gund rfl rfl ?_ ?_; exact Z2; simp only [pM, pN]) | refine go1 ?_ | (apply U6; exact Z1; exact Z1; (focus (simp only [List.nil_append, List.append_nil]; first | exact HK120.out | exact HK105.out)); simp only [pM, pN, rR, rP]) | refine go2 (fun hh => ?_) (fun hh => ?_) | fail)
       refine ⟨HIL.out, _, _, hp, u, o, rfl, HX.out, ?_, HIU.out, ?_, ?_, ?_, ?_, ?_, ?_, ?_, ?_, ?_, ?_, ?_, by have := HIL.out; omega⟩
       ·rw [HNX.out, HO.out]; simp
       all_goals exact Z2
      | true =>
       have hel : hp.elems uv = some (natsV used) := (HU.out.ext HX.out).elems
       have hsz : ∀ v ∈ natsV used, v.cells.length = 1 := fun v hv => by
        obtain ⟨m, _, rfl⟩ := List.mem_map.1 hv
        rfl
       have hlen : (natsV used).length ≤ most := by rw [natsV_len]; have := HH1.out; simp only [List.length_cons] at this; unfold most; omega
       have hll : used.length + (0 + 1) ≤ most := by have := HH1.out; simp only [List.length_cons] at this; unfold most; omega
       repeat' (first | (refine WO1.gund rfl rfl ?_ ?_; exact Z2; simp only [pM, pN]) | (refine calmR rfl rfl rfl rfl rfl ?_ ?_; (focus (simp only [go_sem, *, Nat.reduceLT, Int.reduceEq, Int.reduceBEq, Int.reduceLE, Int.reduceLT, Nat.reduceAdd, Nat.reduceBEq, Nat.reduceEqDiff, reduceIte, Nat.reduceLeDiff, Nat.reduceMul, Nat.reduceSub, reduceCtorEq, Option.map_none, Option.map_some]; done))) | (apply W.draw (id := 20) (lc := [0, 1, 2, 3, 4, 5, 6, 7, 8, 9, 10, 11, 12, 13, 14]) (hot := [(0, 5), (0, 8), (2, 5), (2, 8)]); kernel_rfl; kernel_rfl; kernel_rfl; exact Z4) | (apply WD.cons (o := ⟨some 85, _, _, _, _, none⟩); exact rfl; exact rfl) | (apply WD.cons (o := ⟨some 86, _, _, _, _, none⟩); exact rfl; exact rfl) | (apply WD.cons (o := ⟨some 76, _, _, _, _, none⟩); exact rfl; exact rfl) | (apply WD.cons (o := ⟨some 87, _, _, _, _, none⟩); exact rfl; exact rfl) | (apply WD.cons (o := ⟨some 88, _, _, _, _, none⟩); exact rfl; exact rfl) | (apply WD.cons (o := ⟨some 21, _, _, _, _, none⟩); exact rfl; exact rfl) | (apply WD.cons (o := ⟨some 22, _, _, _, _, none⟩); exact rfl; exact rfl) | (refine WD.cons rfl rfl ?_) | (refine WD.nil ⟨?_, ?_⟩; rotate_left; simp only [tN, bN, eN, true_and]) | (refine calmR rfl rfl rfl rfl rfl ?_ ?_; (focus (first | exact Z2 | exact Z1))) | (refine calmE rfl rfl rfl rfl rfl ?_ ?_; (focus (first | exact Z2 | exact Z1))) | (with_reducible refine calmEnd) | (apply U4 (v := wl); (focus (simp only [go_sem, *, Nat.reduceLT, Int.reduceEq, Int.reduceBEq, Int.reduceLE, Int.reduceLT, Nat.reduceAdd, Nat.reduceBEq, Nat.reduceEqDiff, reduceIte, Nat.reduceLeDiff, Nat.reduceMul, Nat.reduceSub, reduceCtorEq, Option.map_none, Option.map_some]; done)); exact rfl; simp only [pM, pN, rR, rP]) | (apply WO1.appendK (t := 39) (u := 39) (e := 3) (e' := 3) (sz := 1) (tl := []) (y := uv) (l := natsV used); (focus (first | exact Z2 | exact Z1)); exact rfl; exact Z2; exact Z2; exact Z2; (focus (exact ty_row39)); (focus (exact hel)); (focus (exact hsz)); (focus (exact hlen)); (intro v1 hp1 hB1 ho1 hX1; simp only [pM, pN])) | (apply WO1.appendN (t := 39) (u := 39) (e := 3) (e' := 3) (sz := 1) (tl := []) (b := hp.next) (h0 := hp); (focus (exact hB1)); (focus (exact hX1)); exact Z1; exact rfl; exact Z2; exact Z2; exact Z2; (focus (exact ty_row39)); exact Z1; (focus (intro v hv; simp at hv; subst hv; rfl)); (focus (simp only [natsV_len, List.length_cons, List.length_nil]; exact hll)); (focus (simp)); (intro v2 hp2 hB2 ho2 hX2; have hc2 := hB2.blt.cells; have ht2 := hB2.blt.tup; simp only [AV.cells] at hc2; simp only [isTuple] at ht2; have HB2 := Lib.hid hB2; have HX2 := Lib.hid hX2; clear hB2 hX2 hB1 hX1; simp only [pM, pN])) | refine go1 ?_ | (apply U6; exact Z1; exact Z1; (focus (simp only [List.nil_append, List.append_nil]; first | exact HK120.out | exact HK105.out)); simp only [pM, pN, rR, rP]) | refine go2 (fun hh => ?_) (fun hh => ?_) | fail)
       have hrec0 := IH.out nx v2 (w ++ [heldB (k + 1) y]) (used ++ [k + 1]) hp2 HSL.out HHM.out (by
        have := HB2.out.blt
        rw [show natsV (used ++ [k + 1]) = natsV used ++ [.int .i64 ((k + 1 : Nat) : Int)] by simp [natsV]]
        exact this) (by rw [List.length_append]; have := HH1.out; simp only [List.length_cons] at this; simp; omega) (by rw [List.length_append]; have := HH2.out; simp only [List.length_cons] at this; simp; omega)
       unfold ClR at hrec0
       obtain ⟨r2, hrec, hrr⟩ := hrec0
       unfold rfR at hrr
       obtain ⟨h4, rfl, hk4⟩ := hrr
       have hx24 : HExt hp hp2 := HX2.out
       have HX4 := Lib.hid (HX.out.trans (hx24.trans hk4))
       have hsn : ∀ s, refT (posH cx cy wx wy rs) (l.map (ddB st)) (w ++ [heldB (k + 1) y]) (used ++ [k + 1]) = some s → s.length ≤ 1000 := fun s e => by
        have := refT_len e
        rw [List.length_map] at this
        have := HH1.out
        simp only [List.length_cons] at this
        omega
       have hbn : ∀ b, o = some b → b.length ≤ 1000 := fun b e => by
        have q := HO.out
        rw [e] at q
        have q1 := (minT_some q.symm).1
        obtain ⟨y', _, q2⟩ := List.mem_filterMap.1 q1
        unfold gT at q2
        split at q2
        ·have := refT_len q2
         rw [List.length_map] at this
         have := HH1.out
         simp only [List.length_cons] at this
         omega
        ·cases q2
       have HSN := Lib.hid hsn
       have HBN := Lib.hid hbn
       clear hx24 hk4 hsn hbn hel hsz hlen
       generalize refT (posH cx cy wx wy rs) (l.map (ddB st)) (w ++ [heldB (k + 1) y]) (used ++ [k + 1]) = so at *
       cases so with
       | none =>
        simp only [refTV] at hrec
        repeat' (first | (refine WO1.gund rfl rfl ?_ ?_; exact Z2; simp only [pM, pN]) | (refine calmR rfl rfl rfl rfl rfl ?_ ?_; (focus (simp only [go_sem, *, Nat.reduceLT, Int.reduceEq, Int.reduceBEq, Int.reduceLE, Int.reduceLT, Nat.reduceAdd, Nat.reduceBEq, Nat.reduceEqDiff, reduceIte, Nat.reduceLeDiff, Nat.reduceMul, Nat.reduceSub, reduceCtorEq, Option.map_none, Option.map_some]; done))) | (apply W.draw (id := 20) (lc := [0, 1, 2, 3, 4, 5, 6, 7, 8, 9, 10, 11, 12, 13, 14]) (hot := [(0, 5), (0, 8), (2, 5), (2, 8)]); kernel_rfl; kernel_rfl; kernel_rfl; exact Z4) | (apply WD.cons (o := ⟨some 85, _, _, _, _, none⟩); exact rfl; exact rfl) | (apply WD.cons (o := ⟨some 86, _, _, _, _, none⟩); exact rfl; exact rfl) | (apply WD.cons (o := ⟨some 76, _, _, _, _, none⟩); exact rfl; exact rfl) | (apply WD.cons (o := ⟨some 87, _, _, _, _, none⟩); exact rfl; exact rfl) | (apply WD.cons (o := ⟨some 88, _, _, _, _, none⟩); exact rfl; exact rfl) | (apply WD.cons (o := ⟨some 21, _, _, _, _, none⟩); exact rfl; exact rfl) | (apply WD.cons (o := ⟨some 22, _, _, _, _, none⟩); exact rfl; exact rfl) | (refine WD.cons rfl rfl ?_) | (refine WD.nil ⟨?_, ?_⟩; rotate_left; simp only [tN, bN, eN, true_and]) | (refine calmR rfl rfl rfl rfl rfl ?_ ?_; (focus (first | exact Z2 | exact Z1))) | (refine calmE rfl rfl rfl rfl rfl ?_ ?_; (focus (first | exact Z2 | exact Z1))) | (with_reducible refine calmEnd) | (apply U4 (v := wl); (focus (simp only [go_sem, *, Nat.reduceLT, Int.reduceEq, Int.reduceBEq, Int.reduceLE, Int.reduceLT, Nat.reduceAdd, Nat.reduceBEq, Nat.reduceEqDiff, reduceIte, Nat.reduceLeDiff, Nat.reduceMul, Nat.reduceSub, reduceCtorEq, Option.map_none, Option.map_some]; done)); exact rfl; simp only [pM, pN, rR, rP]) | (apply U6; exact Z1; exact Z1; (focus (exact hrec)); simp only [pM, pN, rR, rP]) | refine go1 ?_ | refine go2 (fun hh => ?_) (fun hh => ?_) | fail)
        refine ⟨HIL.out, _, _, h4, u, o, rfl, HX4.out, ?_, HIU.out, ?_, ?_, ?_, ?_, ?_, ?_, ?_, ?_, ?_, ?_, ?_, by have := HIL.out; omega⟩
        ·rw [HNX.out, HO.out]; simp
        all_goals exact Z2
       | some s =>
        simp only [refTV] at hrec
        have hsl := HSN.out s rfl
        have hsv : slV intC (slN (natsV s)) = some (s.map fun k : Nat => (k : Int)) := by rw [natsV_ints]; exact slV_slN (by rw [List.length_map]; unfold maxL; omega)
        have osv := sl_out hsv
        have tsv := (sl_one hsv).2
        have HSV := Lib.hid (show slN (natsV s) = slN (natsV s) from rfl)
        have hnx2 : minT ((bxs.take (i + 1)).filterMap (gT (posH cx cy wx wy rs) (l.map (ddB st)) w used k)) = nxtB o s := by
         rw [HNX.out, HO.out]
         simp only [if_true, Option.toList_some]
         exact minT_next _ _
        have HNX2 := Lib.hid hnx2
        simp only [isTuple] at tsv
        cases o with
        | none =>
         simp only [Option.isSome_none] at e15
         clear hsv hnx2 hsl
         generalize hgs : slN (natsV s) = sv at *
         have HGS := Lib.hid hgs
         clear hgs
         repeat' (first | (refine WO1.gund rfl rfl ?_ ?_; exact Z2; simp only [pM, pN]) | (refine calmR rfl rfl rfl rfl rfl ?_ ?_; (focus (simp only [go_sem, *, Nat.reduceLT, Int.reduceEq, Int.reduceBEq, Int.reduceLE, Int.reduceLT, Nat.reduceAdd, Nat.reduceBEq, Nat.reduceEqDiff, reduceIte, Nat.reduceLeDiff, Nat.reduceMul, Nat.reduceSub, reduceCtorEq, Option.map_none, Option.map_some]; done))) | (apply W.draw (id := 20) (lc := [0, 1, 2, 3, 4, 5, 6, 7, 8, 9, 10, 11, 12, 13, 14]) (hot := [(0, 5), (0, 8), (2, 5), (2, 8)]); kernel_rfl; kernel_rfl; kernel_rfl; exact Z4) | (apply WD.cons (o := ⟨some 85, _, _, _, _, none⟩); exact rfl; exact rfl) | (apply WD.cons (o := ⟨some 86, _, _, _, _, none⟩); exact rfl; exact rfl) | (apply WD.cons (o := ⟨some 76, _, _, _, _, none⟩); exact rfl; exact rfl) | (apply WD.cons (o := ⟨some 87, _, _, _, _, none⟩); exact rfl; exact rfl) | (apply WD.cons (o := ⟨some 88, _, _, _, _, none⟩); exact rfl; exact rfl) | (apply WD.cons (o := ⟨some 21, _, _, _, _, none⟩); exact rfl; exact rfl) | (apply WD.cons (o := ⟨some 22, _, _, _, _, none⟩); exact rfl; exact rfl) | (refine WD.cons rfl rfl ?_) | (refine WD.nil ⟨?_, ?_⟩; rotate_left; simp only [tN, bN, eN, true_and]) | (refine calmR rfl rfl rfl rfl rfl ?_ ?_; (focus (first | exact Z2 | exact Z1))) | (refine calmE rfl rfl rfl rfl rfl ?_ ?_; (focus (first | exact Z2 | exact Z1))) | (with_reducible refine calmEnd) | (apply U4 (v := wl); (focus (simp only [go_sem, *, Nat.reduceLT, Int.reduceEq, Int.reduceBEq, Int.reduceLE, Int.reduceLT, Nat.reduceAdd, Nat.reduceBEq, Nat.reduceEqDiff, reduceIte, Nat.reduceLeDiff, Nat.reduceMul, Nat.reduceSub, reduceCtorEq, Option.map_none, Option.map_some]; done)); exact rfl; simp only [pM, pN, rR, rP]) | (apply U6; exact Z1; exact Z1; (focus (exact hrec)); simp only [pM, pN, rR, rP]) | refine go1 ?_ | refine go2 (fun hh => ?_) (fun hh => ?_) | fail)
         refine ⟨HIL.out, _, _, h4, sv, some s, rfl, HX4.out, HNX2.out.symm, HGS.out.symm, ?_, ?_, ?_, ?_, ?_, ?_, ?_, ?_, ?_, ?_, ?_, by have := HIL.out; omega⟩
         all_goals (simp only [Option.isSome_some, go_sem, *, Nat.reduceLT, Int.reduceEq, Int.reduceBEq, Int.reduceLE, Int.reduceLT, Nat.reduceAdd, Nat.reduceBEq, Nat.reduceEqDiff, reduceIte, Nat.reduceLeDiff, Nat.reduceMul, Nat.reduceSub, reduceCtorEq]; done)
        | some b' =>
         simp only [Option.isSome_some] at e15
         have hbl' := HBN.out b' rfl
         have hub : u = slN (natsV b') := HIU.out
         have hbv : slV intC u = some (b'.map fun k : Nat => (k : Int)) := by rw [hub, natsV_ints]; exact slV_slN (by rw [List.length_map]; unfold maxL; omega)
         have k37 : ∀ H, Cl (dXJ c) 37 [slN (natsV s), u] H (.ret (.bool (lexB s b')) H none) := fun H => by
          have := bef_lex s b'
          exact Cl.intr (g := pureFn sp37) hc37 (by simp only [pureFn, AV.purL, sl_pur hsv, sl_pur hbv, Bool.and_self, if_true, sp37, hsv, hbv, this])
         have HUB := Lib.hid hub
         have hnx3 : minT ((bxs.take (i + 1)).filterMap (gT (posH cx cy wx wy rs) (l.map (ddB st)) w used k)) = if lexB s b' = true then some s else some b' := HNX2.out
         have HNX3 := Lib.hid hnx3
         clear HNX2
         clear hsv hnx2 hnx3 hsl hbl' hub hbv
         generalize hgs : slN (natsV s) = sv at *
         have HGS := Lib.hid hgs
         have HK37 := Lib.hid (k37 h4)
         clear hgs k37
         generalize lexB s b' = lx at *
         cases lx with
         | true =>
          repeat' (first | (refine WO1.gund rfl rfl ?_ ?_; exact Z2; simp only [pM, pN]) | (refine calmR rfl rfl rfl rfl rfl ?_ ?_; (focus (simp only [go_sem, *, Nat.reduceLT, Int.reduceEq, Int.reduceBEq, Int.reduceLE, Int.reduceLT, Nat.reduceAdd, Nat.reduceBEq, Nat.reduceEqDiff, reduceIte, Nat.reduceLeDiff, Nat.reduceMul, Nat.reduceSub, reduceCtorEq, Option.map_none, Option.map_some]; done))) | (apply W.draw (id := 20) (lc := [0, 1, 2, 3, 4, 5, 6, 7, 8, 9, 10, 11, 12, 13, 14]) (hot := [(0, 5), (0, 8), (2, 5), (2, 8)]); kernel_rfl; kernel_rfl; kernel_rfl; exact Z4) | (apply WD.cons (o := ⟨some 85, _, _, _, _, none⟩); exact rfl; exact rfl) | (apply WD.cons (o := ⟨some 86, _, _, _, _, none⟩); exact rfl; exact rfl) | (apply WD.cons (o := ⟨some 76, _, _, _, _, none⟩); exact rfl; exact rfl) | (apply WD.cons (o := ⟨some 87, _, _, _, _, none⟩); exact rfl; exact rfl) | (apply WD.cons (o := ⟨some 88, _, _, _, _, none⟩); exact rfl; exact rfl) | (apply WD.cons (o := ⟨some 21, _, _, _, _, none⟩); exact rfl; exact rfl) | (apply WD.cons (o := ⟨some 22, _, _, _, _, none⟩); exact rfl; exact rfl) | (refine WD.cons rfl rfl ?_) | (refine WD.nil ⟨?_, ?_⟩; rotate_left; simp only [tN, bN, eN, true_and]) | (refine calmR rfl rfl rfl rfl rfl ?_ ?_; (focus (first | exact Z2 | exact Z1))) | (refine calmE rfl rfl rfl rfl rfl ?_ ?_; (focus (first | exact Z2 | exact Z1))) | (with_reducible refine calmEnd) | (apply U4 (v := wl); (focus (simp only [go_sem, *, Nat.reduceLT, Int.reduceEq, Int.reduceBEq, Int.reduceLE, Int.reduceLT, Nat.reduceAdd, Nat.reduceBEq, Nat.reduceEqDiff, reduceIte, Nat.reduceLeDiff, Nat.reduceMul, Nat.reduceSub, reduceCtorEq, Option.map_none, Option.map_some]; done)); exact rfl; simp only [pM, pN, rR, rP]) | (apply U6; exact Z1; exact Z1; (focus (exact hrec)); simp only [pM, pN, rR, rP]) | refine go1 ?_ | (apply U6; exact Z1; exact Z1; (focus (simp only [List.nil_append, List.append_nil]; first | exact HK37.out)); simp only [pM, pN, rR, rP]) | refine go2 (fun hh => ?_) (fun hh => ?_) | fail)
          refine ⟨HIL.out, _, _, h4, sv, some s, rfl, HX4.out, (HNX3.out.trans (if_pos rfl)).symm, HGS.out.symm, ?_, ?_, ?_, ?_, ?_, ?_, ?_, ?_, ?_, ?_, ?_, by have := HIL.out; omega⟩
          all_goals (simp only [Option.isSome_some, go_sem, *, Nat.reduceLT, Int.reduceEq, Int.reduceBEq, Int.reduceLE, Int.reduceLT, Nat.reduceAdd, Nat.reduceBEq, Nat.reduceEqDiff, reduceIte, Nat.reduceLeDiff, Nat.reduceMul, Nat.reduceSub, reduceCtorEq]; done)
         | false =>
          repeat' (first | (refine WO1.gund rfl rfl ?_ ?_; exact Z2; simp only [pM, pN]) | (refine calmR rfl rfl rfl rfl rfl ?_ ?_; (focus (simp only [go_sem, *, Nat.reduceLT, Int.reduceEq, Int.reduceBEq, Int.reduceLE, Int.reduceLT, Nat.reduceAdd, Nat.reduceBEq, Nat.reduceEqDiff, reduceIte, Nat.reduceLeDiff, Nat.reduceMul, Nat.reduceSub, reduceCtorEq, Option.map_none, Option.map_some]; done))) | (apply W.draw (id := 20) (lc := [0, 1, 2, 3, 4, 5, 6, 7, 8, 9, 10, 11, 12, 13, 14]) (hot := [(0, 5), (0, 8), (2, 5), (2, 8)]); kernel_rfl; kernel_rfl; kernel_rfl; exact Z4) | (apply WD.cons (o := ⟨some 85, _, _, _, _, none⟩); exact rfl; exact rfl) | (apply WD.cons (o := ⟨some 86, _, _, _, _, none⟩); exact rfl; exact rfl) | (apply WD.cons (o := ⟨some 76, _, _, _, _, none⟩); exact rfl; exact rfl) | (apply WD.cons (o := ⟨some 87, _, _, _, _, none⟩); exact rfl; exact rfl) | (apply WD.cons (o := ⟨some 88, _, _, _, _, none⟩); exact rfl; exact rfl) | (apply WD.cons (o := ⟨some 21, _, _, _, _, none⟩); exact rfl; exact rfl) | (apply WD.cons (o := ⟨some 22, _, _, _, _, none⟩); exact rfl; exact rfl) | (refine WD.cons rfl rfl ?_) | (refine WD.nil ⟨?_, ?_⟩; rotate_left; simp only [tN, bN, eN, true_and]) | (refine calmR rfl rfl rfl rfl rfl ?_ ?_; (focus (first | exact Z2 | exact Z1))) | (refine calmE rfl rfl rfl rfl rfl ?_ ?_; (focus (first | exact Z2 | exact Z1))) | (with_reducible refine calmEnd) | (apply U4 (v := wl); (focus (simp only [go_sem, *, Nat.reduceLT, Int.reduceEq, Int.reduceBEq, Int.reduceLE, Int.reduceLT, Nat.reduceAdd, Nat.reduceBEq, Nat.reduceEqDiff, reduceIte, Nat.reduceLeDiff, Nat.reduceMul, Nat.reduceSub, reduceCtorEq, Option.map_none, Option.map_some]; done)); exact rfl; simp only [pM, pN, rR, rP]) | (apply U6; exact Z1; exact Z1; (focus (exact hrec)); simp only [pM, pN, rR, rP]) | refine go1 ?_ | (apply U6; exact Z1; exact Z1; (focus (simp only [List.nil_append, List.append_nil]; first | exact HK37.out)); simp only [pM, pN, rR, rP]) | refine go2 (fun hh => ?_) (fun hh => ?_) | fail)
          refine ⟨HIL.out, _, _, h4, u, some b', rfl, HX4.out, (HNX3.out.trans (if_neg (by decide))).symm, HIU.out, ?_, ?_, ?_, ?_, ?_, ?_, ?_, ?_, ?_, ?_, ?_, by have := HIL.out; omega⟩
          all_goals (simp only [Option.isSome_some, go_sem, *, Nat.reduceLT, Int.reduceEq, Int.reduceBEq, Int.reduceLE, Int.reduceLT, Nat.reduceAdd, Nat.reduceBEq, Nat.reduceEqDiff, reduceIte, Nat.reduceLeDiff, Nat.reduceMul, Nat.reduceSub, reduceCtorEq]; done)
     ·have hd : decide ((i : Int) < (bxs.length : Int)) = false := by simpa using hil
      have hii : bxs.take i = bxs := List.take_of_length_le (by omega)
      have ho2 := HO.out
      rw [hii] at ho2
      have HO2 := Lib.hid ho2
      clear hii ho2 hil hi
      cases o with
      | none =>
       simp only [Option.isSome_none] at e15
       have hst : stpR (posH cx cy wx wy rs) bxs (l.map (ddB st)) w used k = none := by rw [HS2.out, ← HO2.out]; rfl
       have HS3 := Lib.hid hst
       clear hst
       repeat' (first | (refine WO1.gund rfl rfl ?_ ?_; exact Z2; simp only [pM, pN]) | refine go1 ?_ | refine go2 (fun hh => ?_) (fun hh => ?_) | fail)
       refine ⟨HLT.out, _, _, hp, rfl, HX.out, HFIN.out HS3.out, ?_, ?_, ?_, ?_, ?_, ?_, ?_, by have := HLT.out; omega⟩
       all_goals exact Z2
      | some s =>
       simp only [Option.isSome_some] at e15
       have hst : stpR (posH cx cy wx wy rs) bxs (l.map (ddB st)) w used k = some ((k + 1) :: s) := by rw [HS2.out, ← HO2.out]; rfl
       have hrs : res = some ((k + 1) :: s) := by rw [← HRES.out]; exact find_some HNO.out hst HLT.out
       have hsn : s.length ≤ 1000 := by
        have q1 := (minT_some HO2.out.symm).1
        obtain ⟨y', _, q2⟩ := List.mem_filterMap.1 q1
        unfold gT at q2
        split at q2
        ·have := refT_len q2
         rw [List.length_map] at this
         have := HH1.out
         simp only [List.length_cons] at this
         omega
        ·cases q2
       have hus : u = slN (natsV s) := HIU.out
       have hes : ∀ H : Heap, H.elems u = some (natsV s) := fun H => by rw [hus]; exact (slN_is _).elems H
       have hss : ∀ v ∈ natsV s, v.cells.length = 1 := fun v hv => by
        obtain ⟨m, _, rfl⟩ := List.mem_map.1 hv
        rfl
       have hsl : [AV.int .i64 ((k + 1 : Nat) : Int)].length + (natsV s).length ≤ most := by rw [natsV_len]; simp only [List.length_cons, List.length_nil]; unfold most; omega
       have HRS2 := Lib.hid hrs
       obtain ⟨qn, qm⟩ := hp
       clear hst hrs hus hsn
       repeat' (first | (refine WO1.gund rfl rfl ?_ ?_; exact Z2; simp only [pM, pN]) | (apply WO1.lit (e := 3) (sz := 1) (l := [AV.int .i64 ((k + 1 : Nat) : Int)]); exact rfl; exact Z2; exact Z2; (focus (first | exact Z2 | exact Z1)); simp only [pM, pN, hp_new, List.length_cons, List.length_nil, Nat.zero_add]) | (apply WO1.appendZ (t := 39) (u := 39) (e := 3) (e' := 3) (sz := 1) (tl := []) (l := natsV s) (id := qn) (l0 := [AV.int .i64 ((k + 1 : Nat) : Int)]); (focus (first | exact Z2 | exact Z1)); exact rfl; exact Z2; exact Z2; exact Z2; (focus (exact ty_row39)); (focus (exact hes _)); (focus (exact hss)); (focus (exact hsl)); (focus (first | exact Z2 | (simp only [hp_get, go_sem, *, Nat.reduceLT, Int.reduceEq, Int.reduceBEq, Int.reduceLE, Int.reduceLT, Nat.reduceAdd, Nat.reduceBEq, Nat.reduceEqDiff, reduceIte, Nat.reduceLeDiff, Nat.reduceMul, Nat.reduceSub, reduceCtorEq]; done))); (focus (simp only; omega)); (focus (simp)); (intro v1 hp1 hB1 ho1 hX1; have HB1 := Lib.hid hB1; have HX1 := Lib.hid hX1; clear hB1 hX1; simp only [pM, pN])) | refine go1 ?_ | refine go2 (fun hh => ?_) (fun hh => ?_) | fail)
       obtain ⟨h', _, fz, _, fn, fg⟩ := HB1.out.freeze
       have HFN := Lib.hid fn
       have HFG := Lib.hid fg
       clear fn fg
       all_goals (simp only [resV_def (X := dXJ c) Tryz.func119, Tryz.results119]; first | exact J5 | refine J6 ?_)
       rw [HRS2.out]
       refine rfR_ret (by simp [refTV, natsV]) (HExt.trans HX.out ⟨?_, fun id hid => ?_⟩)
       ·have := HX1.out.1
        rw [HFN.out]
        simp only at this ⊢
        omega
       ·simp only at hid
        rw [HFG.out id hid, HX1.out.2 id hid, hget_set, if_neg (by omega)]
        rfl
  ·have hd : decide (((k + 1 : Nat) : Int) ≤ 12) = false := by simp; omega
   have hk12 : k = 12 := by omega
   have hrs : res = none := by
    rw [← HRES.out]
    exact find_none fun j hj => HNO.out j (by omega)
   clear hlt hk hk12 hx
   repeat' (first | refine goS ?_ | refine go2 (fun hh => ?_) (fun hh => ?_) | fail)
   all_goals (simp only [resV_def (X := dXJ c) Tryz.func119, Tryz.results119]; first | exact J5 | refine J6 ?_)
   exact rfR_ret rfl HX.out
end Go.AM
namespace Go.AM
open Go Go.Proofs
variable [Keep]
attribute [local irreducible] W WO WO1 WD WQ WT thenQ blockQ endR isRet retK Cl ClR
attribute [local irreducible] roundQ RdR clR boundsS machB boxL suitB MA.could MA.poss MA.suit MA.mach
def sp54 : List AV → Option AV
 | [.agg [ha, .int .i64 _]] => (slLen ha).map fun (n : Nat) => AV.bool (decide ((n : Int) ≤ 6))
 | _ => none
theorem F54 : IntrFn Tryz.prog 54 (pureFn sp54) := by
 refine pure_fn (X := dX cP2) cP2_sound (fun a v h => by
  unfold sp54 at h
  split at h
  ·simp only [Option.map_eq_some_iff] at h; obtain ⟨n, _, rfl⟩ := h; rfl
  ·cases h) ?_
 intro args v h
 unfold sp54 at h
 split at h
 ·simp only [Option.map_eq_some_iff] at h
  obtain ⟨n, hn, rfl⟩ := h
  obtain ⟨ln, ou, tu⟩ := slLen_is hn
  simp only [isTuple] at tu
  clear hn
  refine ClR.walk (c := _) rfl Tryz.func54 rfl (by kernel_rfl) rfl isRet_fail ?_
  simp only [entryEnv, Nat.reduceAdd]
  repeat' (first | refine goS ?_ | refine go2 (fun hh => ?_) (fun hh => ?_) | fail)
  all_goals (simp only [resV_def (X := dX cP2) Tryz.func54, Tryz.results54]; first | exact J5 | refine J6 ?_)
 ·cases h
theorem K54 {X : Ctx} (hX : X.intr 54 = some (pureFn sp54)) (ha : AV) (es : List AV) (err : Int) (hl : isSl ha es) (hp : ∀ x ∈ es, x.pur = true) (h : Heap) : Cl X 54 [.agg [ha, .int .i64 err]] h (.ret (.bool (decide ((es.length : Int) ≤ 6))) h none) :=
 Cl.intr hX (by simp [pureFn, AV.pur, AV.purL, hl.pur hp, sp54, slLen_mk hl])
def MA.good (m : MA) : Prop := ∃ (st : List Pt) (rs : List Rdg), isSl m.sa (st.map ptC.enc) ∧ isSl m.ra (rs.map rdgC.enc)
def MA.thin (m : MA) : Bool := decide ((((slLen m.sa).getD 0 : Nat) : Int) ≤ 6) && decide ((((slLen m.ra).getD 0 : Nat) : Int) ≤ 6)
theorem MA.good_ok {m : MA} (h : m.good) (ht : m.thin = true) : m.ok = true := by
 obtain ⟨st, rs, h1, h2⟩ := h
 unfold MA.thin at ht
 rw [slLen_mk h1, slLen_mk h2] at ht
 simp only [Option.getD_some, List.length_map, Bool.and_eq_true, decide_eq_true_eq] at ht
 have e1 : slV ptC m.sa = some st := slV_mk h1 (by unfold maxL; omega)
 have e2 : slV rdgC m.ra = some rs := slV_mk h2 (by unfold maxL; omega)
 simp [MA.ok, e1, e2]
end Go.AM
namespace Go.AM
open Go Go.Proofs
variable [Keep]
attribute [local irreducible] W WO WO1 WD WQ WT thenQ blockQ endR isRet retK Cl ClR
attribute [local irreducible] isNew roundQ RdR boundsS machB boxL suitB posH clS clN tgR addU refBoxes bothV minT
def BA.good (m : BA) : Prop := ∃ hs : List Pt, isSl m.ha (hs.map ptC.enc)
def BA.thin (m : BA) : Bool := decide ((((slLen m.ha).getD 0 : Nat) : Int) ≤ 6)
theorem BA.good_ok {m : BA} (h : m.good) (ht : m.thin = true) : m.ok = true := by
 obtain ⟨hs, h1⟩ := h
 unfold BA.thin at ht
 rw [slLen_mk h1] at ht
 simp only [Option.getD_some, List.length_map, decide_eq_true_eq] at ht
 have e1 : slV ptC m.ha = some hs := slV_mk h1 (by unfold maxL; omega)
 simp [BA.ok, e1]
def btnsB (l : List BA) : Bool := (l.take 6).all BA.thin && decide ((l.length : Int) ≤ 5)
set_option maxHeartbeats 1000000 in
theorem C48 (c : Itr) (hc : c 48 = none) (hc54 : c 54 = some (pureFn sp54)) (la : AV) (l : List BA) (hl : isSl la (l.map butC.enc)) (hg : ∀ m ∈ l, m.good) (h : Heap) : Cl (dX c) 48 [la] h (.ret (.bool (btnsB l)) h none) := by
 refine ClR.cl ?_
 have hlen : lenS la = some l.length := by rw [hl.len, List.length_map]
 have hout := hl.out
 refine ClR.walk (c := _) hc Tryz.func48 rfl (by kernel_rfl) rfl (fun e => by cases e) ?_
 simp only [entryEnv, Nat.reduceAdd]
 repeat' (first | refine goS ?_ | refine go2 (fun hh => ?_) (fun hh => ?_) | fail)
 refine W.loopN 6 (fun k F => ∃ e, F = Fr.mk 48 false e .nil h [] none ∧ (l.take k).all BA.thin = true ∧ e.get 0 = some la ∧ e.get 3 = some (.int .i64 ↑k) ∧ k ≤ l.length ∧ k ≤ 6) ?_ ?_
 ·refine ⟨_, rfl, ?_, ?_, ?_, ?_, ?_⟩ <;> simp [go_sem, *]
 rintro k F ⟨e, rfl, hall, h0, h3, hk, hk6⟩
 have HA := Lib.hid hall
 clear hall
 by_cases hlt : k < l.length
 ·have hd : decide ((k : Int) < (l.length : Int)) = true := by simpa using hlt
  by_cases h6 : k < 6
  ·have hd6 : decide ((k : Int) < 6) = true := by simp; omega
   obtain ⟨m, hm⟩ := get_some hlt
   have hmg := hg m (List.mem_of_getElem? hm)
   have hix : ∀ H, indexAddrV Tryz.prog H 70 la (.int .i64 ↑k) = some (.vptr [m.ha, .int .i64 m.err]) := fun H => hl.idx (x := butC.enc m) Tryz.underlying70 ty_lay77 (by simp [hm]) rfl
   have hw := wrap_succ h6 (show 6 ≤ maxL by unfold maxL; omega)
   obtain ⟨hs, h1⟩ := hmg
   have ob := h1.out
   have tb := h1.tup
   have cb := h1.cells
   have k54 := fun h => K54 (X := dX c) hc54 m.ha _ m.err h1 (enc_pur ptC hs) h
   have hth : BA.thin m = decide (((hs.map ptC.enc).length : Int) ≤ 6) := by unfold BA.thin; rw [slLen_mk h1]; rfl
   rw [← hth] at k54
   have hnx : (l.take (k + 1)).all BA.thin = BA.thin m := by rw [take_next hm, List.all_append, HA.out]; simp
   have hno : BA.thin m = false → btnsB l = false := fun e => by
    have : (l.take 6).all BA.thin = false := by
     rw [Bool.eq_false_iff]
     intro q
     have q2 := List.all_eq_true.1 q m (by
      have : (l.take 6)[k]? = some m := by rw [List.getElem?_take, if_pos h6]; exact hm
      exact List.mem_of_getElem? this)
     rw [e] at q2
     cases q2
    unfold btnsB
    rw [this]
    rfl
   have HNX := Lib.hid hnx
   have HNO := Lib.hid hno
   simp only [AV.cells] at cb
   simp only [isTuple] at tb
   clear hl hg hm h1 hth hnx hno
   generalize BA.thin m = th at *
   cases th with
   | true =>
    repeat' (first | refine goS ?_ | (apply U6; exact Z1; exact Z1; (focus (simp only [List.nil_append, List.append_nil]; first | exact k54 _)); simp only [pM, pN, rR, rP]) | refine go2 (fun hh => ?_) (fun hh => ?_) | fail)
    refine ⟨h6, _, rfl, HNX.out, ?_, ?_, by omega, by omega⟩
    all_goals exact Z2
   | false =>
    repeat' (first | refine goS ?_ | (apply U6; exact Z1; exact Z1; (focus (simp only [List.nil_append, List.append_nil]; first | exact k54 _)); simp only [pM, pN, rR, rP]) | refine go2 (fun hh => ?_) (fun hh => ?_) | fail)
    all_goals (simp only [resV_def (X := dX c) Tryz.func48, Tryz.results48]; first | exact J5 | refine J6 ?_)
    simp [isR, frzRes, dX_frz, dFrz, HNO.out rfl]
  ·have hd6 : decide ((k : Int) < 6) = false := by simp; omega
   have hk6' : k = 6 := by omega
   have hb : btnsB l = decide ((l.length : Int) ≤ 5) := by
    have := HA.out
    rw [hk6'] at this
    unfold btnsB
    rw [this]
    rfl
   have HB := Lib.hid hb
   clear hl hg hb hk6' hk6 hlt hk
   repeat' (first | refine goS ?_ | refine go2 (fun hh => ?_) (fun hh => ?_) | fail)
   all_goals (simp only [resV_def (X := dX c) Tryz.func48, Tryz.results48]; first | exact J5 | refine J6 ?_)
   simp [isR, frzRes, dX_frz, dFrz, HB.out]
 ·have hd : decide ((k : Int) < (l.length : Int)) = false := by simpa using hlt
  have hb : btnsB l = decide ((l.length : Int) ≤ 5) := by
   have h2 := HA.out
   have e1 : l.take 6 = l := List.take_of_length_le (by omega)
   have e2 : l.take k = l := List.take_of_length_le (by omega)
   rw [e2] at h2
   unfold btnsB
   rw [e1, h2]
   rfl
  have HB := Lib.hid hb
  clear hl hg hb hlt hk hk6
  repeat' (first | refine goS ?_ | refine go2 (fun hh => ?_) (fun hh => ?_) | fail)
  all_goals (simp only [resV_def (X := dX c) Tryz.func48, Tryz.results48]; first | exact J5 | refine J6 ?_)
  simp [isR, frzRes, dX_frz, dFrz, HB.out]
theorem prodL_app (a : List (List Bx)) (b : List Bx) : prodL (a ++ [b]) = prodL a * (b.length + 1) := by
 induction a with
 | nil => rw [List.nil_append, prodL_cons]; unfold prodL; simp
 | cons x a ih => rw [List.cons_append, prodL_cons, prodL_cons, ih, Nat.mul_assoc]
theorem prodL_le {m : Nat} : ∀ (a : List (List Bx)), (∀ b ∈ a, b.length ≤ m) → prodL a ≤ (m + 1) ^ a.length := by
 intro a
 induction a with
 | nil => intro _; unfold prodL; simp
 | cons x a ih =>
  intro h
  have h1 := ih (fun b hb => h b (by simp [hb]))
  have h2 := h x (by simp)
  rw [prodL_cons, List.length_cons, Nat.pow_succ, Nat.mul_comm]
  exact Nat.mul_le_mul h1 (by omega)
def wayI (mach : Bool) (st : List Pt) (l : List BA) : Int := if l.all (fun b => suitB mach st b.holes b.err) then ((prodL (l.map (ddB st)) : Nat) : Int) else 0
def sp49 : List AV → Option AV
 | [.agg [sa, .int .i64 cxl, .int .i64 cxh, .int .i64 cyl, .int .i64 cyh, .int .i64 wxl, .int .i64 wxh, .int .i64 wyl, .int .i64 wyh, ra], la] => match slV ptC sa, slV rdgC ra, slV butC la with
  | some st, some rs, some l => if (l.all BA.ok && decide (l.length ≤ 5)) = true then some (.int .i64 (wayI (machB st ⟨cxl, cxh⟩ ⟨cyl, cyh⟩ ⟨wxl, wxh⟩ ⟨wyl, wyh⟩ rs) st l)) else none
  | _, _, _ => none
 | _ => none
theorem p49 : ∀ args v, sp49 args = some v → v.pur = true := by
 intro args v h
 unfold sp49 at h
 split at h
 ·split at h
  ·split at h
   ·cases h; rfl
   ·cases h
  ·cases h
 ·cases h
noncomputable def cJF : Itr
 | 37 => some (pureFn sp37)
 | 51 => some (pureFn sp162)
 | 71 => some (flatFn sp71)
 | 105 => some (pureFn sp105)
 | 106 => some (pureFn sp106)
 | 109 => some (pureFn sp109)
 | 120 => some (pureFn sp120)
 | _ => none
theorem cJF_sound : Sound (dX cJF) := dX_sound (fun f g h => by
 unfold cJF at h
 split at h
 ·cases h; exact F37
 ·cases h; exact F51
 ·cases h; exact F71
 ·cases h; exact F105
 ·cases h; exact F106
 ·cases h; exact F109
 ·cases h; exact F120
 ·cases h)
theorem cJFJ_sound : Sound (dXJ cJF) := dXJ_sound cJF_sound.intr
theorem suit_parts' (mach : Bool) (st hs : List Pt) (err : Int) : suitB mach st hs err = (mach && butB hs err && decide (hs.length = st.length)) := by unfold suitB; rfl
set_option maxHeartbeats 4000000 in
theorem F49 : IntrFn Tryz.prog 49 (pureFn sp49) := by
 refine pure_fn (X := dX cJF) cJF_sound p49 ?_
 intro args v h
 unfold sp49 at h
 split at h
 ·rename_i sa cxl cxh cyl cyh wxl wxh wyl wyh ra la
  split at h
  ·rename_i st rs l hl hr hb
   split at h
   ·rename_i hg
    have h := Option.some.inj h
    subst h
    simp only [Bool.and_eq_true, decide_eq_true_eq] at hg
    have o2 := sl_out hl
    have o3 := sl_out hr
    have l2 := sl_len hl
    obtain ⟨n2, t2⟩ := sl_one hl
    obtain ⟨n3, t3⟩ := sl_one hr
    have c2 : sa.cells = [sa] := (slV_is hl).1.cells
    have c3 : ra.cells = [ra] := (slV_is hr).1.cells
    have o4 := sl_out hb
    have l4 := sl_len hb
    have t4 := (sl_one hb).2
    have k71 := fun h => K71 (X := dX cJF) rfl sa ra st rs ⟨cxl, cxh⟩ ⟨cyl, cyh⟩ ⟨wxl, wxh⟩ ⟨wyl, wyh⟩ hl hr h
    rw [machR_B] at k71
    have H109 := Lib.hid (fun (b : BA) (hok : b.ok = true) (hs : suitB (machB st ⟨cxl, cxh⟩ ⟨cyl, cyh⟩ ⟨wxl, wxh⟩ ⟨wyl, wyh⟩ rs) st b.holes b.err = true) (h : Heap) => by
     obtain ⟨_, _, hhl, h2, h4, _⟩ := suit_small hs
     obtain ⟨p1, p2, p3, p4, p5⟩ := suit_pts hs
     have := K109 (X := dX cJF) rfl sa ra b.ha st b.holes rs ⟨cxl, cxh⟩ ⟨cyl, cyh⟩ ⟨wxl, wxh⟩ ⟨wyl, wyh⟩ b.err hl hr (BA.ok_is hok) ⟨hhl, by omega, h4⟩ h
     rw [show refBoxes b.err st b.holes 8 = ddB st b from refBoxes_dd p1 p2 p3 p4 p5] at this
     exact And.intro this (show (ddB st b).length ≤ 192 by
      rw [← show refBoxes b.err st b.holes 8 = ddB st b from refBoxes_dd p1 p2 p3 p4 p5]
      exact refBoxes_lenB b.err h4 8))
    generalize machB st ⟨cxl, cxh⟩ ⟨cyl, cyh⟩ ⟨wxl, wxh⟩ ⟨wyl, wyh⟩ rs = mach at *
    have HB := Lib.hid hb
    have HOK := Lib.hid hg.1
    have HL5 := Lib.hid hg.2
    simp only [AV.cells] at c2 c3
    simp only [isTuple] at t2 t3 t4
    clear hl hr hb hg
    refine ClR.walk (c := _) rfl Tryz.func49 rfl (by kernel_rfl) rfl isRet_fail ?_
    simp only [entryEnv, Nat.reduceAdd, emptyHp]
    repeat' (first | refine goS ?_ | refine go2 (fun hh => ?_) (fun hh => ?_) | fail)
    refine W.loopN l.length (fun k F => ∃ e lm, F = Fr.mk 49 false e lm ⟨0, .nil⟩ [] none ∧ (l.take k).all (fun b => suitB mach st b.holes b.err) = true ∧ e.get 1 = some la ∧ lm.get 2 = some (0, [sa, .int .i64 cxl, .int .i64 cxh, .int .i64 cyl, .int .i64 cyh, .int .i64 wxl, .int .i64 wxh, .int .i64 wyl, .int .i64 wyh, ra]) ∧ e.get 2 = some (.lptr 2 0 0) ∧ e.get 5 = some (.int .i64 ((prodL ((l.take k).map (ddB st)) : Nat) : Int)) ∧ (l.take k).all (fun b => decide ((ddB st b).length ≤ 192)) = true ∧ e.get 6 = some (.int .i64 ↑k) ∧ k ≤ l.length) ?_ ?_
    ·refine ⟨_, _, rfl, rfl, ?_, ?_, ?_, ?_, rfl, ?_, ?_⟩ <;> simp [prodL, go_sem, *, Nat.reduceLT, Int.reduceEq, Int.reduceBEq, Int.reduceLE, Int.reduceLT, Nat.reduceAdd, Nat.reduceBEq, Nat.reduceEqDiff, reduceIte, Nat.reduceLeDiff, Nat.reduceMul, Nat.reduceSub, reduceCtorEq]
    rintro k F ⟨e, lm, rfl, hall, h1, m2, h2, h5, h192, h6, hk⟩
    have HA := Lib.hid hall
    have H192 := Lib.hid h192
    clear hall h192
    by_cases hlt : k < l.length
    ·obtain ⟨b, hbk⟩ := get_some hlt
     have hbo := List.all_eq_true.1 HOK.out b (List.mem_of_getElem? hbk)
     have cb := BA.cells hbo
     have qb := BA.ok_is hbo
     have ob := sl_out qb
     have lb := sl_len qb
     have tb := (sl_one qb).2
     have hix := fun H => but_idx HB.out hbk (by rw [cb]; rfl) H
     have k51 := fun h => K51 (X := dX cJF) rfl b.ha b.holes b.err qb h
     have hd : decide ((k : Int) < (l.length : Int)) = true := by simpa using hlt
     have hw := wrap_succ hlt (show l.length ≤ maxL by have := HL5.out; unfold maxL; omega)
     have hle : ((b.holes.length : Int) != (st.length : Int)) = !decide (b.holes.length = st.length) := by
      rw [Bool.eq_iff_iff]
      simp
      omega
     have hsu := suit_parts' mach st b.holes b.err
     have hnx : (l.take (k + 1)).all (fun b => suitB mach st b.holes b.err) = suitB mach st b.holes b.err := by rw [take_next hbk, List.all_append, HA.out]; simp
     have hno : suitB mach st b.holes b.err = false → wayI mach st l = 0 := fun e => by
      have : (l.all fun b => suitB mach st b.holes b.err) = false := by
       rw [Bool.eq_false_iff]
       intro q
       have q2 := List.all_eq_true.1 q b (List.mem_of_getElem? hbk)
       rw [e] at q2
       cases q2
      unfold wayI
      rw [this]
      rfl
     have hpr : prodL ((l.take (k + 1)).map (ddB st)) = prodL ((l.take k).map (ddB st)) * ((ddB st b).length + 1) := by rw [take_next hbk, List.map_append]; exact prodL_app _ _
     have h19 : (l.take (k + 1)).all (fun b => decide ((ddB st b).length ≤ 192)) = decide ((ddB st b).length ≤ 192) := by rw [take_next hbk, List.all_append, H192.out]; simp
     have hpl : prodL ((l.take k).map (ddB st)) ≤ 193 ^ 5 := by
      have q1 := prodL_le (m := 192) ((l.take k).map (ddB st)) (fun x hx => by
       obtain ⟨y, hy, rfl⟩ := List.mem_map.1 hx
       have := List.all_eq_true.1 H192.out y hy
       simpa using this)
      rw [List.length_map, List.length_take] at q1
      exact Nat.le_trans q1 (Nat.pow_le_pow_right (by omega) (by have := HL5.out; omega))
     have h109 := fun q => H109.out b hbo q
     have HNX := Lib.hid hnx
     have HNO := Lib.hid hno
     have HSU := Lib.hid hsu
     have H109b := Lib.hid h109
     have HPR := Lib.hid hpr
     have H19 := Lib.hid h19
     have HPL := Lib.hid hpl
     simp only [AV.cells] at cb
     simp only [isTuple] at tb
     clear hbk hbo qb hsu hnx hno h109 hpr h19 hpl hk
     have hcase : (mach = false ∧ suitB mach st b.holes b.err = false) ∨ (mach = true ∧ butB b.holes b.err = false ∧ suitB mach st b.holes b.err = false) ∨ (mach = true ∧ butB b.holes b.err = true ∧ decide (b.holes.length = st.length) = false ∧ suitB mach st b.holes b.err = false) ∨ (mach = true ∧ butB b.holes b.err = true ∧ decide (b.holes.length = st.length) = true ∧ suitB mach st b.holes b.err = true) := by
      rw [HSU.out]
      cases mach <;> cases butB b.holes b.err <;> cases decide (b.holes.length = st.length) <;> simp
     rcases hcase with ⟨c1', su⟩ | ⟨c1', c2', su⟩ | ⟨c1', c2', c3', su⟩ | ⟨c1', c2', c3', su⟩
     ·rw [c1'] at k71
      have HNO2 := Lib.hid (HNO.out su)
      clear c1' su HSU HNX hle
      repeat' (first | (apply W.drawQ (id := 5) (l1 := [0, 1, 2, 3, 4, 5, 6, 7, 8, 9, 10, 11, 12, 13, 14, 15, 16, 17, 18, 19, 20, 21, 22]) (l2 := []); kernel_rfl; kernel_rfl; kernel_rfl; exact Z4) | (apply W.drawQ (id := 7) (l1 := [0, 1, 2, 3, 4, 5, 6, 7, 8, 9, 10]) (l2 := []); kernel_rfl; kernel_rfl; kernel_rfl; exact Z4) | refine go1 ?_ | (apply U6; exact Z1; exact Z1; (focus (simp only [List.nil_append, List.append_nil]; first | exact k71 _)); simp only [pM, pN, rR, rP]) | refine go2 (fun hh => ?_) (fun hh => ?_) | fail)
      all_goals (simp only [resV_def (X := dX cJF) Tryz.func49, Tryz.results49]; first | exact J5 | refine J6 ?_)
      rw [HNO2.out]
     ·rw [c1'] at k71
      rw [c2'] at k51
      have HNO2 := Lib.hid (HNO.out su)
      clear c1' c2' su HSU HNX hle
      repeat' (first | (apply W.drawQ (id := 5) (l1 := [0, 1, 2, 3, 4, 5, 6, 7, 8, 9, 10, 11, 12, 13, 14, 15, 16, 17, 18, 19, 20, 21, 22]) (l2 := []); kernel_rfl; kernel_rfl; kernel_rfl; exact Z4) | (apply W.drawQ (id := 7) (l1 := [0, 1, 2, 3, 4, 5, 6, 7, 8, 9, 10]) (l2 := []); kernel_rfl; kernel_rfl; kernel_rfl; exact Z4) | refine go1 ?_ | (apply U6; exact Z1; exact Z1; (focus (simp only [List.nil_append, List.append_nil]; first | exact k71 _ | exact k51 _)); simp only [pM, pN, rR, rP]) | refine go2 (fun hh => ?_) (fun hh => ?_) | fail)
      all_goals (simp only [resV_def (X := dX cJF) Tryz.func49, Tryz.results49]; first | exact J5 | refine J6 ?_)
      rw [HNO2.out]
     ·rw [c1'] at k71
      rw [c2'] at k51
      rw [c3'] at hle
      simp only [Bool.not_false] at hle
      have HNO2 := Lib.hid (HNO.out su)
      clear c1' c2' c3' su HSU HNX
      repeat' (first | (apply W.drawQ (id := 5) (l1 := [0, 1, 2, 3, 4, 5, 6, 7, 8, 9, 10, 11, 12, 13, 14, 15, 16, 17, 18, 19, 20, 21, 22]) (l2 := []); kernel_rfl; kernel_rfl; kernel_rfl; exact Z4) | (apply W.drawQ (id := 7) (l1 := [0, 1, 2, 3, 4, 5, 6, 7, 8, 9, 10]) (l2 := []); kernel_rfl; kernel_rfl; kernel_rfl; exact Z4) | refine go1 ?_ | (apply U6; exact Z1; exact Z1; (focus (simp only [List.nil_append, List.append_nil]; first | exact k71 _ | exact k51 _)); simp only [pM, pN, rR, rP]) | refine go2 (fun hh => ?_) (fun hh => ?_) | fail)
      all_goals (simp only [resV_def (X := dX cJF) Tryz.func49, Tryz.results49]; first | exact J5 | refine J6 ?_)
      rw [HNO2.out]
     ·rw [c1'] at k71
      rw [c2'] at k51
      rw [c3'] at hle
      simp only [Bool.not_true] at hle
      have HNX2 := Lib.hid (HNX.out.trans su)
      have k109 := fun h => (H109b.out su h).1
      have hbl := (H109b.out su ⟨0, .nil⟩).2
      have hba := slN_is ((ddB st b).map markE)
      have oba := hba.out
      have lba := hba.len
      have tba := hba.tup
      rw [List.length_map] at lba
      generalize prodL ((l.take k).map (ddB st)) = pk at *
      generalize slN ((ddB st b).map markE) = bv at *
      have H19b := Lib.hid (H19.out.trans (decide_eq_true hbl))
      generalize (ddB st b).length = dl at *
      have hw1 : IntKind.i64.wrap ((dl : Int) + 1) = ((dl + 1 : Nat) : Int) := by rw [wrap_small (by omega) (by omega)]; simp
      have hw2 : IntKind.i64.wrap ((pk : Int) * ((dl + 1 : Nat) : Int)) = ((pk * (dl + 1) : Nat) : Int) := by
       have q1 := HPL.out
       have q2 : pk * (dl + 1) ≤ 193 ^ 5 * 193 := Nat.mul_le_mul q1 (by omega)
       have q3 : ((pk : Int) * ((dl + 1 : Nat) : Int)) = ((pk * (dl + 1) : Nat) : Int) := by simp
       rw [q3, wrap_small (by omega) (by omega)]
      simp only [isTuple] at tba
      clear c1' c2' c3' su HSU HNX HNO H109b hba hbl
      repeat' (first | (apply W.drawQ (id := 5) (l1 := [0, 1, 2, 3, 4, 5, 6, 7, 8, 9, 10, 11, 12, 13, 14, 15, 16, 17, 18, 19, 20, 21, 22]) (l2 := []); kernel_rfl; kernel_rfl; kernel_rfl; exact Z4) | (apply W.drawQ (id := 7) (l1 := [0, 1, 2, 3, 4, 5, 6, 7, 8, 9, 10]) (l2 := []); kernel_rfl; kernel_rfl; kernel_rfl; exact Z4) | refine go1 ?_ | (apply U6; exact Z1; exact Z1; (focus (simp only [List.nil_append, List.append_nil]; first | exact k71 _ | exact k51 _ | exact k109 _)); simp only [pM, pN, rR, rP]) | refine go2 (fun hh => ?_) (fun hh => ?_) | fail)
      refine ⟨hlt, _, _, rfl, HNX2.out, ?_, ?_, ?_, ?_, H19b.out, ?_, by omega⟩
      all_goals first | exact Z2 | (rw [HPR.out]; simp only [go_sem, *, Nat.reduceLT, Int.reduceEq, Int.reduceBEq, Int.reduceLE, Int.reduceLT, Nat.reduceAdd, Nat.reduceBEq, Nat.reduceEqDiff, reduceIte, Nat.reduceLeDiff, Nat.reduceMul, Nat.reduceSub, reduceCtorEq]; done)
    ·have hd : decide ((k : Int) < (l.length : Int)) = false := by simpa using hlt
     have hkl : l.take k = l := List.take_of_length_le (by omega)
     have h2' := HA.out
     rw [hkl] at h2' h5
     have hv : wayI mach st l = ((prodL (l.map (ddB st)) : Nat) : Int) := by unfold wayI; rw [h2']; rfl
     have HV := Lib.hid hv
     clear hv h2' hkl hlt hk
     repeat' (first | refine goS ?_ | refine go2 (fun hh => ?_) (fun hh => ?_) | fail)
     all_goals (simp only [resV_def (X := dX cJF) Tryz.func49, Tryz.results49]; first | exact J5 | refine J6 ?_)
     rw [HV.out]
   ·cases h
  ·cases h
 ·cases h
theorem K49 {X : Ctx} (hX : X.intr 49 = some (pureFn sp49)) (sa ra la : AV) (st : List Pt) (rs : List Rdg) (l : List BA) (cx cy wx wy : Sp) (hl : slV ptC sa = some st) (hr : slV rdgC ra = some rs) (hb : slV butC la = some l) (hok : l.all BA.ok = true) (h5 : l.length ≤ 5) (h : Heap) :
  Cl X 49 [.agg [sa, .int .i64 cx.lo, .int .i64 cx.hi, .int .i64 cy.lo, .int .i64 cy.hi, .int .i64 wx.lo, .int .i64 wx.hi, .int .i64 wy.lo, .int .i64 wy.hi, ra], la] h (.ret (.int .i64 (wayI (machB st cx cy wx wy rs) st l)) h none) :=
 Cl.intr hX (by
  have e : (l.all BA.ok && decide (l.length ≤ 5)) = true := by rw [hok]; simpa using h5
  simp only [pureFn, AV.pur, AV.purL, sl_pur hl, sl_pur hr, sl_pur hb, Bool.and_self, if_true, sp49, hl, hr, hb, e])
def sp52 : List AV → Option AV
 | [.agg [sa, .int .i64 cxl, .int .i64 cxh, .int .i64 cyl, .int .i64 cyh, .int .i64 wxl, .int .i64 wxh, .int .i64 wyl, .int .i64 wyh, ra], la] => match slV ptC sa, slV rdgC ra, slV butC la with
  | some st, some rs, some l => if (machB st ⟨cxl, cxh⟩ ⟨cyl, cyh⟩ ⟨wxl, wxh⟩ ⟨wyl, wyh⟩ rs && l.all BA.ok && (l.all fun b => suitB true st b.holes b.err) && decide (l.length ≤ 5)) = true then
    some (refTV (refT (posH ⟨cxl, cxh⟩ ⟨cyl, cyh⟩ ⟨wxl, wxh⟩ ⟨wyl, wyh⟩ rs) (l.map (ddB st)) [] [])) else none
  | _, _, _ => none
 | _ => none
theorem refTV_pur (o : Option (List Nat)) : (refTV o).pur = true := by
 cases o with
 | none => rfl
 | some s => simp [refTV, AV.pur, AV.purL, slN_pur (natsV_pur s)]
theorem p52 : ∀ args v, sp52 args = some v → v.pur = true := by
 intro args v h
 unfold sp52 at h
 split at h
 ·split at h
  ·split at h
   ·have h := Option.some.inj h
    subst h
    exact refTV_pur _
   ·cases h
  ·cases h
 ·cases h
set_option maxHeartbeats 4000000 in
theorem F52 : IntrFn Tryz.prog 52 (pureFn sp52) := by
 refine pure_fn (X := dXJ cJF) cJFJ_sound p52 ?_
 intro args v h
 unfold sp52 at h
 split at h
 ·rename_i sa cxl cxh cyl cyh wxl wxh wyl wyh ra la
  split at h
  ·rename_i st rs l hl hr hb
   split at h
   ·rename_i hg
    have h := Option.some.inj h
    subst h
    simp only [Bool.and_eq_true, decide_eq_true_eq] at hg
    obtain ⟨⟨⟨h1, h2⟩, h3⟩, h4⟩ := hg
    have hms := mach_small h1
    have o2 := sl_out hl
    have o3 := sl_out hr
    obtain ⟨n2, t2⟩ := sl_one hl
    obtain ⟨n3, t3⟩ := sl_one hr
    have c2 : sa.cells = [sa] := (slV_is hl).1.cells
    have c3 : ra.cells = [ra] := (slV_is hr).1.cells
    have o4 := sl_out hb
    have k106 := fun h => K106 (X := dXJ cJF) rfl sa ra st rs ⟨cxl, cxh⟩ ⟨cyl, cyh⟩ ⟨wxl, wxh⟩ ⟨wyl, wyh⟩ hl hr h
    have hmv : slV heldC (slN ((marksOf rs).map heldC.enc)) = some (marksOf rs ++ []) := by rw [List.append_nil]; exact slV_slN (by simp [marksOf]; unfold maxL; omega)
    have h119 := C119 cJF rfl rfl rfl rfl rfl sa ra st ⟨cxl, cxh⟩ ⟨cyl, cyh⟩ ⟨wxl, wxh⟩ ⟨wyl, wyh⟩ rs hl hr h1 l la _ .nilslice [] [] emptyHp hb h2 (fun b hb' => List.all_eq_true.1 h3 b hb') hmv (fun m hm => by simp at hm) (.inl ⟨rfl, rfl⟩) (by simp; omega) (by simp; omega)
    unfold ClR at h119
    obtain ⟨r2, hrec, hrr⟩ := h119
    unfold rfR at hrr
    obtain ⟨⟨zn, zm⟩, rfl, hk4⟩ := hrr
    have omv := sl_out hmv
    have tmv := (sl_one hmv).2
    generalize slN ((marksOf rs).map heldC.enc) = mv at *
    simp only [AV.cells] at c2 c3
    simp only [isTuple] at t2 t3 tmv
    simp only [emptyHp] at hrec
    generalize refT (posH ⟨cxl, cxh⟩ ⟨cyl, cyh⟩ ⟨wxl, wxh⟩ ⟨wyl, wyh⟩ rs) (l.map (ddB st)) [] [] = so at *
    clear hl hr hb h1 h2 h3 h4 hms hmv hk4
    refine ClR.walk (c := _) rfl Tryz.func52 rfl (by kernel_rfl) rfl isRet_fail ?_
    simp only [entryEnv, Nat.reduceAdd, emptyHp]
    cases so with
    | none =>
     simp only [refTV] at hrec
     repeat' (first | (apply W.draw (id := 1) (lc := [0, 1, 2, 3, 4, 5, 6, 7, 8]) (hot := [(0, 3)]); kernel_rfl; kernel_rfl; kernel_rfl; exact Z4) | (apply WD.cons (o := ⟨some 5, _, _, _, _, none⟩); exact rfl; exact rfl) | (refine WD.cons rfl rfl ?_) | (refine WD.nil ⟨?_, ?_⟩; rotate_left; simp only [tN, bN, eN, true_and]) | (refine calmR rfl rfl rfl rfl rfl ?_ ?_; (focus (first | exact Z2 | exact Z1))) | (refine calmE rfl rfl rfl rfl rfl ?_ ?_; (focus (first | exact Z2 | exact Z1))) | (with_reducible refine calmEnd) | (apply U6; exact Z1; exact Z1; (focus (exact hrec)); simp only [pM, pN, rR, rP]) | refine go1 ?_ | (apply U6; exact Z1; exact Z1; (focus (simp only [List.nil_append, List.append_nil]; first | exact k106 _)); simp only [pM, pN, rR, rP]) | refine go2 (fun hh => ?_) (fun hh => ?_) | fail)
     all_goals (simp only [resV_def (X := dXJ cJF) Tryz.func52, Tryz.results52]; first | exact J5 | refine J6 ?_)
     rfl
    | some s =>
     simp only [refTV] at hrec
     have hs := slN_is (natsV s)
     have osv := hs.out
     have tsv := hs.tup
     have fz1 := hs.frz2
     simp only [isTuple] at tsv
     generalize hgs : slN (natsV s) = sv at *
     have HGS := Lib.hid hgs
     clear hgs hs
     repeat' (first | (apply W.draw (id := 1) (lc := [0, 1, 2, 3, 4, 5, 6, 7, 8]) (hot := [(0, 3)]); kernel_rfl; kernel_rfl; kernel_rfl; exact Z4) | (apply WD.cons (o := ⟨some 5, _, _, _, _, none⟩); exact rfl; exact rfl) | (refine WD.cons rfl rfl ?_) | (refine WD.nil ⟨?_, ?_⟩; rotate_left; simp only [tN, bN, eN, true_and]) | (refine calmR rfl rfl rfl rfl rfl ?_ ?_; (focus (first | exact Z2 | exact Z1))) | (refine calmE rfl rfl rfl rfl rfl ?_ ?_; (focus (first | exact Z2 | exact Z1))) | (with_reducible refine calmEnd) | (apply U6; exact Z1; exact Z1; (focus (exact hrec)); simp only [pM, pN, rR, rP]) | refine go1 ?_ | (apply U6; exact Z1; exact Z1; (focus (simp only [List.nil_append, List.append_nil]; first | exact k106 _)); simp only [pM, pN, rR, rP]) | refine go2 (fun hh => ?_) (fun hh => ?_) | fail)
     all_goals (simp only [resV_def (X := dXJ cJF) Tryz.func52, Tryz.results52]; first | exact J5 | refine J6 ?_)
     simp only [refTV, HGS.out]
   ·cases h
  ·cases h
 ·cases h
theorem K52 {X : Ctx} (hX : X.intr 52 = some (pureFn sp52)) (sa ra la : AV) (st : List Pt) (rs : List Rdg) (l : List BA) (cx cy wx wy : Sp) (hl : slV ptC sa = some st) (hr : slV rdgC ra = some rs) (hb : slV butC la = some l) (hm : machB st cx cy wx wy rs = true) (hok : l.all BA.ok = true) (hs : (l.all fun b => suitB true st b.holes b.err) = true) (h5 : l.length ≤ 5) (h : Heap) :
  Cl X 52 [.agg [sa, .int .i64 cx.lo, .int .i64 cx.hi, .int .i64 cy.lo, .int .i64 cy.hi, .int .i64 wx.lo, .int .i64 wx.hi, .int .i64 wy.lo, .int .i64 wy.hi, ra], la] h (.ret (refTV (refT (posH cx cy wx wy rs) (l.map (ddB st)) [] [])) h none) :=
 Cl.intr hX (by
  have e : (machB st cx cy wx wy rs && l.all BA.ok && (l.all fun b => suitB true st b.holes b.err) && decide (l.length ≤ 5)) = true := by rw [hm, hok, hs]; simpa using h5
  simp only [pureFn, AV.pur, AV.purL, sl_pur hl, sl_pur hr, sl_pur hb, Bool.and_self, if_true, sp52, hl, hr, hb, e])
theorem K50 {X : Ctx} (hX : X.intr 50 = some (pureFn sp50)) (sa ra la : AV) (st : List Pt) (rs : List Rdg) (l : List BA) (cx cy wx wy : Sp) (hl : slV ptC sa = some st) (hr : slV rdgC ra = some rs) (hb : slV butC la = some l) (hok : l.all BA.ok = true) (hs : togOk (machB st cx cy wx wy rs) st l = false ∨ prodL (l.map (ddB st)) ≤ 16000000) (h : Heap) :
  Cl X 50 [.agg [sa, .int .i64 cx.lo, .int .i64 cx.hi, .int .i64 cy.lo, .int .i64 cy.hi, .int .i64 wx.lo, .int .i64 wx.hi, .int .i64 wy.lo, .int .i64 wy.hi, ra], la] h (.ret (togV (togOk (machB st cx cy wx wy rs) st l) (possB cx cy wx wy rs) (srchT (posH cx cy wx wy rs) (l.map (ddB st)) [] [[]])) h none) :=
 Cl.intr hX (by
  have e : (l.all BA.ok && (!(togOk (machB st cx cy wx wy rs) st l) || decide (prodL (l.map (ddB st)) ≤ 16000000))) = true := by
   rw [hok]
   rcases hs with q | q
   ·rw [q]; rfl
   ·rw [decide_eq_true q]; simp
  simp only [pureFn, AV.pur, AV.purL, sl_pur hl, sl_pur hr, sl_pur hb, Bool.and_self, if_true, sp50, hl, hr, hb, e])
end Go.AM
