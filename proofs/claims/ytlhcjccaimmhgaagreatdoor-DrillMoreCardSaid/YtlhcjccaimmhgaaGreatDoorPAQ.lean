/-
  A part of the proof: contracts of functions.
-/
import Derived.Test.YtlhcjccaimmhgaaGreatDoorPAN
import Derived.Test.YtlhcjccaimmhgaaGreatDoorPAP
import Derived.Test.YtlhcjccaimmhgaaGreatDoorPAO
set_option linter.unusedSectionVars false
set_option linter.unusedVariables false
set_option linter.unusedSimpArgs false
set_option maxRecDepth 100000
namespace Go.AM
open Go Go.Proofs
variable [Keep]
attribute [local irreducible] W WO WO1 WD WQ WT thenQ blockQ endR isRet retK Cl ClR
attribute [local irreducible] matchS
theorem eqH202 : Tryz.prog.stoodInHeld 202 = false := by kernel_rfl
theorem eqT202 (a b c d : Int) : eqT Tryz.prog eqDepth 202 (.agg [.int .i64 a, .int .i64 b]) (.agg [.int .i64 c, .int .i64 d]) = some (a == c && b == d) := by
 simp only [eqDepth, eqT, Tryz.underlying202, eqH202, eqFields]
 simp [eqFields, readT, ty_lay3, readAt, Tryz.underlying3]
 cases h1 : (a == c) <;> cases h2 : (b == d) <;> simp_all
theorem key202 (a b : Int) : keyOf Tryz.prog 202 (.agg [.int .i64 a, .int .i64 b]) = true := by
 unfold keyOf
 rw [eqT202]
 simp [keyV, scalarV]
def encT (tab : List (Pt × Bool)) : List (AV × AV) := tab.map fun e => (.agg [.int .i64 e.1.x, .int .i64 e.1.y], .bool e.2)
def getT (p : Pt) : List (Pt × Bool) → Option Bool
 | [] => none
 | (q, b) :: r => if ptEq p q then some b else getT p r
theorem find202 (p : Pt) : ∀ (tab : List (Pt × Bool)), findV Tryz.prog 202 (.agg [.int .i64 p.x, .int .i64 p.y]) (encT tab) = some ((getT p tab).map AV.bool) := by
 intro tab
 induction tab with
 | nil => rfl
 | cons e r ih =>
  obtain ⟨q, b⟩ := e
  show (match eqT Tryz.prog eqDepth 202 (.agg [.int .i64 p.x, .int .i64 p.y]) (.agg [.int .i64 q.x, .int .i64 q.y]) with | some true => _ | some false => _ | none => _) = _
  rw [eqT202]
  have he : (p.x == q.x && p.y == q.y) = ptEq p q := rfl
  rw [he]
  simp only [getT]
  cases ptEq p q with
  | true => rfl
  | false => exact ih
theorem put202 (p : Pt) (v : Bool) : ∀ (tab : List (Pt × Bool)), getT p tab = none → mapPut Tryz.prog 202 (.agg [.int .i64 p.x, .int .i64 p.y]) (.bool v) (encT tab) = some (encT (tab ++ [(p, v)])) := by
 intro tab
 induction tab with
 | nil => intro _; rfl
 | cons e r ih =>
  obtain ⟨q, b⟩ := e
  intro h
  simp only [getT] at h
  have he : (p.x == q.x && p.y == q.y) = ptEq p q := rfl
  cases hpq : ptEq p q with
  | true => rw [hpq] at h; simp at h
  | false =>
   rw [hpq] at h
   have h2 := ih (by simpa using h)
   show (match eqT Tryz.prog eqDepth 202 (.agg [.int .i64 p.x, .int .i64 p.y]) (.agg [.int .i64 q.x, .int .i64 q.y]) with | some true => _ | some false => _ | none => _) = _
   rw [eqT202, he, hpq]
   show (match mapPut Tryz.prog 202 (.agg [.int .i64 p.x, .int .i64 p.y]) (.bool v) (encT r) with | some l => _ | none => _) = _
   rw [h2]
   rfl
theorem look202 {h : Heap} {id : Nat} {tab : List (Pt × Bool)} (hg : h.get id = some (.mp (encT tab))) (p : Pt) : lookupV Tryz.prog h 149 (.map id) (.agg [.int .i64 p.x, .int .i64 p.y]) true = some (match getT p tab with | some b => .tuple [.bool b, .bool true] | none => .tuple [.bool false, .bool false]) := by
 simp only [lookupV, Tryz.underlying149, key202, if_true, entriesV, hg, find202]
 cases getT p tab with
 | none => simp [ty_zero4]
 | some b => rfl
def TabOk (G : Pt → Bool) (tab : List (Pt × Bool)) : Prop := ∀ e ∈ tab, e.2 = G e.1
theorem ptEq_eq {p q : Pt} (h : ptEq p q = true) : p = q := by
 obtain ⟨a, b⟩ := p
 obtain ⟨c, d⟩ := q
 simp only [ptEq, Bool.and_eq_true, beq_iff_eq] at h
 rw [h.1, h.2]
theorem tab_get {G : Pt → Bool} {p : Pt} {b : Bool} : ∀ {tab : List (Pt × Bool)}, TabOk G tab → getT p tab = some b → b = G p := by
 intro tab
 induction tab with
 | nil => intro _ h; cases h
 | cons e r ih =>
  obtain ⟨q, c⟩ := e
  intro ht h
  simp only [getT] at h
  split at h
  ·rename_i hpq
   cases h
   rw [ptEq_eq hpq]
   exact ht (q, b) (by simp)
  ·exact ih (fun e he => ht e (by simp [he])) h
section
variable {X : Ctx} {ops : Array Oper} {K P : AV → Fr → Prop} {F : Fr} {d : Option Tmp} {T : TypeId} {ps : String} {af : Array Edge}
theorem WO1.mapUp {t kt et : TypeId} {m k v : Operand} {id : Nat} {x y : AV} {es es' : List (AV × AV)} (hu : X.P.underlying t = some (.map kt et)) (hm : F.opv m = some (.map id)) (hk : F.opv k = some x) (hv : F.opv v = some y)
  (hkey : keyOf X.P kt x = true) (hg : F.hp.get id = some (.mp es)) (hp : mapPut X.P kt x y es = some es') (h : K undefA (({ F with hp := F.hp.put id (.mp es') } : Fr).put d undefA)) : WO1 X ops ⟨d, .mapUpdate t m k v, T, ps, af, none⟩ F K P := by
 refine U5 (v := undefA) (F' := { F with hp := F.hp.put id (.mp es') }) rfl (fun cl rd => ?_) h
 simp only [efV, Fr.mapUpdateE, hu, hm, hk, hv, hkey, if_true, hg, hp]
end
theorem und149 : Tryz.prog.underlying 149 = some (.map 202 4) := Tryz.underlying149
end Go.AM
namespace Go.AM
open Go Go.Proofs
variable [Keep]
attribute [local irreducible] W WO WO1 WD WQ WT thenQ blockQ endR isRet retK Cl ClR
attribute [local irreducible] matchS
def goodB (off : Int) (hs st : List Pt) (p : Pt) : Bool := (matchS off hs (movedL st p.x p.y)).isSome
def goodR (h : Heap) (id : Nat) (G : Pt → Bool) (b : Bool) (r : COut) : Prop := ∃ h' tab', r = .ret (.bool b) h' none ∧ h'.next = h.next ∧ h'.get id = some (.mp (encT tab')) ∧ TabOk G tab' ∧ ∀ j, j ≠ id → h'.get j = h.get j
theorem goodR_fail {h : Heap} {id : Nat} {G : Pt → Bool} {b : Bool} : ¬ goodR h id G b .fail := by rintro ⟨_, _, e, _⟩; cases e
set_option maxHeartbeats 2000000 in
theorem C160 (c : Itr) (hc : c 160 = none) (hc1 : c 138 = some (pureFn sp138)) (hc2 : c 100 = some (pureFn sp100)) (sa ra ca : AV) (cx cy wx wy : Sp) (st hs : List Pt) (off : Int) (p : Pt) (id : Nat) (h : Heap) (tab : List (Pt × Bool))
  (hs1 : slV ptC sa = some st) (hone : ra.one = true) (htr : isTuple ra = false) (hor : outV (some ra) = some ra) (hs2 : slV ptC ca = some hs) (hlen : hs.length = st.length) (h1 : 1 ≤ st.length) (h8 : st.length ≤ 8) (hg : h.get id = some (.mp (encT tab))) (ht : TabOk (goodB off hs st) tab) :
  ClR (dX c) 160 [.agg [sa, .int .i64 cx.lo, .int .i64 cx.hi, .int .i64 cy.lo, .int .i64 cy.hi, .int .i64 wx.lo, .int .i64 wx.hi, .int .i64 wy.lo, .int .i64 wy.hi, ra, .map id], .agg [ca, .int .i64 off], .agg [.int .i64 p.x, .int .i64 p.y]] h (goodR h id (goodB off hs st) (goodB off hs st p)) := by
 have o1 := sl_out hs1
 have o2 := sl_out hs2
 have t1 := (slV_is hs1).1.tup
 have t2 := (slV_is hs2).1.tup
 have hlk := look202 hg p
 have hml : (movedL st p.x p.y).length = st.length := by simp [movedL]
 have hsm : slV ptC (slN ((movedL st p.x p.y).map ptC.enc)) = some (movedL st p.x p.y) := slV_slN (by rw [hml]; unfold maxL; omega)
 have k138 : ∀ h, Cl (dX c) 138 [sa, .agg [.int .i64 p.x, .int .i64 p.y]] h (.ret (slN ((movedL st p.x p.y).map ptC.enc)) h none) := fun h => K138 hc1 sa st p.x p.y hs1 h
 have k100 : ∀ h, Cl (dX c) 100 [.agg [ca, .int .i64 off], slN ((movedL st p.x p.y).map ptC.enc)] h (.ret (matchV (matchS off hs (movedL st p.x p.y))) h none) := fun h => Cl.intr (g := pureFn sp100) hc2 (by
  have e3 : 1 ≤ st.length ∧ st.length ≤ 8 := ⟨h1, h8⟩
  simp [pureFn, AV.pur, AV.purL, sl_pur hs2, sl_pur hsm, sp100, hs2, hsm, hml, hlen, e3])
 have o3 := sl_out hsm
 have HG := Lib.hid hg
 have HT := Lib.hid ht
 cases hgt : getT p tab with
 | some b =>
  have hb : goodB off hs st p = b := (tab_get ht hgt).symm
  rw [hgt] at hlk
  rw [hb]
  clear hg ht hgt hb hsm hs1 hs2 k138 k100 hml
  refine ClR.walk (c := _) hc Tryz.func160 rfl (by kernel_rfl) rfl goodR_fail ?_
  simp only [entryEnv, Nat.reduceAdd]
  repeat' (first | refine goS ?_ | refine go2 (fun hh => ?_) (fun hh => ?_) | fail)
  all_goals (simp only [resV_def (X := dX c) Tryz.func160, Tryz.results160]; first | exact J5 | refine J6 ?_)
  exact ⟨h, tab, rfl, rfl, HG.out, HT.out, fun _ _ => rfl⟩
 | none =>
  rw [hgt] at hlk
  have hu149 := und149
  have hmp := fun v => put202 p v tab hgt
  have hgd : goodB off hs st p = (matchS off hs (movedL st p.x p.y)).isSome := rfl
  have HGD := Lib.hid hgd
  have HMP := Lib.hid hmp
  have HU := Lib.hid hu149
  rw [hgd]
  clear ht hgt hsm hs1 hs2 hml hgd hmp hu149
  generalize slN ((movedL st p.x p.y).map ptC.enc) = mw at *
  generalize matchS off hs (movedL st p.x p.y) = ms at *
  have hex : ∃ v w b, matchV ms = .tuple [v, w, .bool b] ∧ ms.isSome = b ∧ outV (some v) = some v ∧ outV (some w) = some w := by
   cases ms with
   | none => exact ⟨_, _, _, rfl, rfl, rfl, rfl⟩
   | some m =>
    obtain ⟨t, o⟩ := m
    exact ⟨_, _, _, rfl, rfl, rfl, (slN_nats o).1⟩
  obtain ⟨v, w, b, hv, hb, ov, ow⟩ := hex
  rw [hv] at k100
  rw [hb] at HGD ⊢
  clear hv hb
  refine ClR.walk (c := _) hc Tryz.func160 rfl (by kernel_rfl) rfl goodR_fail ?_
  simp only [entryEnv, Nat.reduceAdd]
  repeat' (first | (apply WO1.mapUp (kt := 202) (et := 4) (es' := encT (tab ++ [(p, b)])); (focus (exact HU.out)); exact Z1; exact Z1; exact Z1; (focus (exact key202 p.x p.y)); (focus (exact hg)); (focus (exact HMP.out b)); simp only [pM, pN]) | (apply W.drawQ (id := 3) (l1 := [0, 1, 2, 3, 4, 5, 6, 7, 8, 9, 10, 11]) (l2 := []); kernel_rfl; kernel_rfl; kernel_rfl; exact Z4) | refine go1 ?_ | (apply U6; exact Z1; exact Z1; (focus (simp only [List.nil_append, List.append_nil]; first | exact k138 _ | exact k100 _)); simp only [pM, pN, rR, rP]) | refine go2 (fun hh => ?_) (fun hh => ?_) | fail)
  all_goals (simp only [resV_def (X := dX c) Tryz.func160, Tryz.results160]; first | exact J5 | refine J6 ?_)
  refine ⟨_, tab ++ [(p, b)], rfl, rfl, ?_, fun e he => ?_, fun j hj => ?_⟩
  ·rw [Heap.get_put, if_pos rfl]
  ·rcases List.mem_append.1 he with q | q
   ·exact HT.out e q
   ·simp at q
    subst q
    exact HGD.out.symm
  ·rw [Heap.get_put, if_neg (fun e => hj e.symm)]
end Go.AM
namespace Go.AM
open Go Go.Proofs
variable [Keep]
attribute [local irreducible] W WO WO1 WD WQ WT thenQ blockQ endR isRet retK Cl ClR
attribute [local irreducible] matchS goodB goodR
def rowAny (G : Pt → Bool) (x y : Sp) (i : Nat) (k : Nat) : Bool := (List.range k).any fun b => G ⟨x.lo + i, y.lo + b⟩
def ny (y : Sp) : Nat := (y.hi - y.lo + 1).toNat
def upAny (G : Pt → Bool) (x y : Sp) (i : Nat) : Bool := (List.range i).any fun a => rowAny G x y a (ny y)
def sureW (G : Pt → Bool) (x y : Sp) : Int := if upAny (fun p => !G p) x y (ny x) then (if upAny G x y (ny x) then 2 else 1) else 3
theorem row_next (G : Pt → Bool) (x y : Sp) (i k : Nat) : rowAny G x y i (k + 1) = (rowAny G x y i k || G ⟨x.lo + i, y.lo + k⟩) := by
 simp only [rowAny, List.range_succ, List.any_append, List.any_cons, List.any_nil, Bool.or_false]
theorem up_next (G : Pt → Bool) (x y : Sp) (i : Nat) : upAny G x y (i + 1) = (upAny G x y i || rowAny G x y i (ny y)) := by
 simp only [upAny, List.range_succ, List.any_append, List.any_cons, List.any_nil, Bool.or_false]
def sureR (h : Heap) (id : Nat) (G : Pt → Bool) (w : Int) (r : COut) : Prop := ∃ h' tab', r = .ret (.int .i64 w) h' none ∧ h'.next = h.next ∧ h'.get id = some (.mp (encT tab')) ∧ TabOk G tab' ∧ ∀ j, j ≠ id → h'.get j = h.get j
theorem sureR_fail {h : Heap} {id : Nat} {G : Pt → Bool} {w : Int} : ¬ sureR h id G w .fail := by rintro ⟨_, _, e, _⟩; cases e
structure SpOk (x : Sp) : Prop where
 lo : -1000 ≤ x.lo
 lo2 : x.lo ≤ 1000
 hi : x.hi ≤ 1000
 hi2 : -1000 ≤ x.hi
theorem sp_cnt {x : Sp} (h : SpOk x) : IntKind.i64.wrap (x.hi - x.lo) = x.hi - x.lo ∧ IntKind.i64.wrap (x.hi - x.lo + 1) = x.hi - x.lo + 1 := by
 have := h.lo
 have := h.hi
 have := h.lo2
 have := h.hi2
 exact ⟨wrap_small (by omega) (by omega), wrap_small (by omega) (by omega)⟩
theorem ny_small {x : Sp} (h : SpOk x) : ny x ≤ 2001 := by
 have := h.lo
 have := h.hi
 unfold ny
 omega
theorem lt_ny {x : Sp} (i : Nat) : decide ((i : Int) < x.hi - x.lo + 1) = decide (i < ny x) := by
 unfold ny
 rw [Bool.eq_iff_iff]
 simp only [decide_eq_true_eq]
 omega
set_option maxHeartbeats 4000000 in
theorem C108 (c : Itr) (hc0 : c 108 = none) (hc : c 160 = none) (hc1 : c 138 = some (pureFn sp138)) (hc2 : c 100 = some (pureFn sp100)) (sa ra ca : AV) (cx cy wx wy : Sp) (st hs : List Pt) (off : Int) (x y : Sp) (id : Nat) (h : Heap) (tab : List (Pt × Bool))
  (hs1 : slV ptC sa = some st) (hone : ra.one = true) (htr : isTuple ra = false) (hor : outV (some ra) = some ra) (hs2 : slV ptC ca = some hs) (hlen : hs.length = st.length) (h1 : 1 ≤ st.length) (h8 : st.length ≤ 8) (hx : SpOk x) (hy : SpOk y) (hg : h.get id = some (.mp (encT tab))) (ht : TabOk (goodB off hs st) tab) :
  ClR (dX c) 108 [.agg [sa, .int .i64 cx.lo, .int .i64 cx.hi, .int .i64 cy.lo, .int .i64 cy.hi, .int .i64 wx.lo, .int .i64 wx.hi, .int .i64 wy.lo, .int .i64 wy.hi, ra, .map id], .agg [ca, .int .i64 off], .agg [.int .i64 x.lo, .int .i64 x.hi], .agg [.int .i64 y.lo, .int .i64 y.hi]] h (sureR h id (goodB off hs st) (sureW (goodB off hs st) x y)) := by
 have o1 := sl_out hs1
 have o2 := sl_out hs2
 have t1 := (slV_is hs1).1.tup
 have t2 := (slV_is hs2).1.tup
 obtain ⟨w1, w2⟩ := sp_cnt hx
 obtain ⟨w3, w4⟩ := sp_cnt hy
 have hgood := fun (p : Pt) (hp : Heap) (tb : List (Pt × Bool)) (q1 : hp.get id = some (.mp (encT tb))) (q2 : TabOk (goodB off hs st) tb) => C160 c hc hc1 hc2 sa ra ca cx cy wx wy st hs off p id hp tb hs1 hone htr hor hs2 hlen h1 h8 q1 q2
 have HGOOD := Lib.hid hgood
 have HX := Lib.hid hx
 have HY := Lib.hid hy
 have HG := Lib.hid hg
 have HT := Lib.hid ht
 generalize goodB off hs st = G at *
 have HR := Lib.hid (show sureW G x y = (if upAny (fun p => !G p) x y (ny x) then (if upAny G x y (ny x) then 2 else 1) else 3) from rfl)
 generalize sureW G x y = res at *
 clear hgood hg ht hs1 hs2 hlen h1 h8 hx hy
 refine ClR.walk (c := _) hc0 Tryz.func108 rfl (by kernel_rfl) rfl sureR_fail ?_
 simp only [entryEnv, Nat.reduceAdd]
 repeat' (first | refine goS ?_ | refine go2 (fun hh => ?_) (fun hh => ?_) | fail)
 refine W.loopN (ny x) (fun i F => ∃ e lm hp tb, F = Fr.mk 108 false e lm hp [] none ∧ (hp.next = h.next ∧ hp.get id = some (.mp (encT tb)) ∧ TabOk G tb ∧ ∀ j, j ≠ id → hp.get j = h.get j) ∧
  lm.get 4 = some (0, [sa, .int .i64 cx.lo, .int .i64 cx.hi, .int .i64 cy.lo, .int .i64 cy.hi, .int .i64 wx.lo, .int .i64 wx.hi, .int .i64 wy.lo, .int .i64 wy.hi, ra, .map id]) ∧ lm.get 5 = some (0, [ca, .int .i64 off]) ∧ lm.get 6 = some (0, [.int .i64 x.lo, .int .i64 x.hi]) ∧ lm.get 7 = some (0, [.int .i64 y.lo, .int .i64 y.hi]) ∧
  e.get 4 = some (.lptr 4 0 0) ∧ e.get 5 = some (.lptr 5 0 0) ∧ e.get 6 = some (.lptr 6 0 0) ∧ e.get 7 = some (.lptr 7 0 0) ∧ e.get 9 = some (.bool (upAny G x y i)) ∧ e.get 10 = some (.bool (upAny (fun p => !G p) x y i)) ∧ e.get 18 = some (.int .i64 (x.hi - x.lo + 1)) ∧ e.get 19 = some (.int .i64 ↑i) ∧ i ≤ ny x) ?_ ?_
 ·refine ⟨_, _, h, tab, rfl, ⟨rfl, HG.out, HT.out, fun _ _ => rfl⟩, ?_, ?_, ?_, ?_, ?_, ?_, ?_, ?_, ?_, ?_, ?_, ?_, Nat.zero_le _⟩ <;> first | exact Z2 | simp [go_sem, *, upAny]
 rintro i F ⟨e, lm, hp, tb, rfl, hhp, m4, m5, m6, m7, e4, e5, e6, e7, e9, e10, e18, e19, hi⟩
 have HHP := Lib.hid hhp
 clear hhp
 have hdl := lt_ny (x := x) i
 by_cases hlt : i < ny x
 ·rw [decide_eq_true hlt] at hdl
  have hw := wrap_succ (m := ny x) hlt (by have := ny_small HX.out; unfold maxL; omega)
  have wi : IntKind.i64.wrap (x.lo + ↑i) = x.lo + ↑i := wrap_small (by have := HX.out.lo; omega) (by have := HX.out.lo2; have := ny_small HX.out; omega)
  repeat' (first | refine goS ?_ | refine go2 (fun hh => ?_) (fun hh => ?_) | fail)
  refine W.loopN (ny y) (fun k F => ∃ e lm hp tb, F = Fr.mk 108 false e lm hp [] none ∧ (hp.next = h.next ∧ hp.get id = some (.mp (encT tb)) ∧ TabOk G tb ∧ ∀ j, j ≠ id → hp.get j = h.get j) ∧
   lm.get 4 = some (0, [sa, .int .i64 cx.lo, .int .i64 cx.hi, .int .i64 cy.lo, .int .i64 cy.hi, .int .i64 wx.lo, .int .i64 wx.hi, .int .i64 wy.lo, .int .i64 wy.hi, ra, .map id]) ∧ lm.get 5 = some (0, [ca, .int .i64 off]) ∧ lm.get 6 = some (0, [.int .i64 x.lo, .int .i64 x.hi]) ∧ lm.get 7 = some (0, [.int .i64 y.lo, .int .i64 y.hi]) ∧
   e.get 4 = some (.lptr 4 0 0) ∧ e.get 5 = some (.lptr 5 0 0) ∧ e.get 6 = some (.lptr 6 0 0) ∧ e.get 7 = some (.lptr 7 0 0) ∧ e.get 9 = some (.bool (upAny G x y i || rowAny G x y i k)) ∧ e.get 10 = some (.bool (upAny (fun p => !G p) x y i || rowAny (fun p => !G p) x y i k)) ∧ e.get 11 = some (.int .i64 ↑i) ∧ e.get 18 = some (.int .i64 (x.hi - x.lo + 1)) ∧ e.get 19 = some (.int .i64 ↑i) ∧ e.get 27 = some (.int .i64 (y.hi - y.lo + 1)) ∧ e.get 28 = some (.int .i64 ↑k) ∧ k ≤ ny y) ?_ ?_
  ·refine ⟨_, _, hp, tb, rfl, HHP.out, ?_, ?_, ?_, ?_, ?_, ?_, ?_, ?_, ?_, ?_, ?_, ?_, ?_, ?_, ?_, Nat.zero_le _⟩ <;> first | exact Z2 | simp [go_sem, *, rowAny]
  clear m4 m5 m6 m7 e4 e5 e6 e7 e9 e10 e18 e19 hdl HHP
  rintro k F ⟨e, lm, hp, tb, rfl, hhp, m4, m5, m6, m7, e4, e5, e6, e7, e9, e10, e11, e18, e19, e27, e28, hk⟩
  have HHP := Lib.hid hhp
  clear hhp
  have hdl := lt_ny (x := y) k
  by_cases hky : k < ny y
  ·rw [decide_eq_true hky] at hdl
   have hw2 := wrap_succ (m := ny y) hky (by have := ny_small HY.out; unfold maxL; omega)
   have wk : IntKind.i64.wrap (y.lo + ↑k) = y.lo + ↑k := wrap_small (by have := HY.out.lo; omega) (by have := HY.out.lo2; have := ny_small HY.out; omega)
   have hcl0 := HGOOD.out ⟨x.lo + i, y.lo + k⟩ hp tb HHP.out.2.1 HHP.out.2.2.1
   unfold ClR at hcl0
   obtain ⟨r, hcl, hcr⟩ := hcl0
   unfold goodR at hcr
   obtain ⟨hp', tb', rfl, n1, n2, n3, n4⟩ := hcr
   have r1 := row_next G x y i k
   have r2 := row_next (fun p => !G p) x y i k
   have HN := Lib.hid (show hp'.next = h.next ∧ hp'.get id = some (.mp (encT tb')) ∧ TabOk G tb' ∧ ∀ j, j ≠ id → hp'.get j = h.get j from ⟨n1.trans HHP.out.1, n2, n3, fun j hj => (n4 j hj).trans (HHP.out.2.2.2 j hj)⟩)
   clear n1 n2 n3 n4
   cases hG : G ⟨x.lo + i, y.lo + k⟩ with
   | true =>
    rw [hG] at hcl r1
    simp only [hG, Bool.not_true, Bool.or_false, Bool.or_true] at r1 r2
    have R1 := Lib.hid r1
    have R2 := Lib.hid r2
    clear r1 r2 hG
    repeat' (first | (apply U6; exact Z1; exact Z1; (focus (exact hcl)); simp only [pM, pN, rR, rP]) | refine go1 ?_ | refine go2 (fun hh => ?_) (fun hh => ?_) | fail)
    refine ⟨hky, _, _, hp', tb', rfl, HN.out, ?_, ?_, ?_, ?_, ?_, ?_, ?_, ?_, ?_, ?_, ?_, ?_, ?_, ?_, ?_, by omega⟩
    case refine_9 => rw [R1.out]; simp only [go_sem, *, Nat.reduceLT, Int.reduceEq, Int.reduceBEq, Int.reduceLE, Int.reduceLT, Nat.reduceAdd, Nat.reduceBEq, Nat.reduceEqDiff, reduceIte, Nat.reduceLeDiff, Nat.reduceMul, Nat.reduceSub, reduceCtorEq, Bool.or_true]
    case refine_10 => rw [R2.out]; simp only [go_sem, *, Nat.reduceLT, Int.reduceEq, Int.reduceBEq, Int.reduceLE, Int.reduceLT, Nat.reduceAdd, Nat.reduceBEq, Nat.reduceEqDiff, reduceIte, Nat.reduceLeDiff, Nat.reduceMul, Nat.reduceSub, reduceCtorEq]
    all_goals exact Z2
   | false =>
    rw [hG] at hcl r1
    simp only [hG, Bool.not_false, Bool.or_false, Bool.or_true] at r1 r2
    have R1 := Lib.hid r1
    have R2 := Lib.hid r2
    clear r1 r2 hG
    repeat' (first | (apply U6; exact Z1; exact Z1; (focus (exact hcl)); simp only [pM, pN, rR, rP]) | refine go1 ?_ | refine go2 (fun hh => ?_) (fun hh => ?_) | fail)
    refine ⟨hky, _, _, hp', tb', rfl, HN.out, ?_, ?_, ?_, ?_, ?_, ?_, ?_, ?_, ?_, ?_, ?_, ?_, ?_, ?_, ?_, by omega⟩
    case refine_9 => rw [R1.out]; simp only [go_sem, *, Nat.reduceLT, Int.reduceEq, Int.reduceBEq, Int.reduceLE, Int.reduceLT, Nat.reduceAdd, Nat.reduceBEq, Nat.reduceEqDiff, reduceIte, Nat.reduceLeDiff, Nat.reduceMul, Nat.reduceSub, reduceCtorEq]
    case refine_10 => rw [R2.out]; simp only [go_sem, *, Nat.reduceLT, Int.reduceEq, Int.reduceBEq, Int.reduceLE, Int.reduceLT, Nat.reduceAdd, Nat.reduceBEq, Nat.reduceEqDiff, reduceIte, Nat.reduceLeDiff, Nat.reduceMul, Nat.reduceSub, reduceCtorEq, Bool.or_true]
    all_goals exact Z2
  ·rw [decide_eq_false hky] at hdl
   have hkn : k = ny y := by omega
   have HK := Lib.hid hkn
   have U1 := Lib.hid (up_next G x y i)
   have U2 := Lib.hid (up_next (fun p => !G p) x y i)
   clear hkn hky hk
   repeat' (first | refine goS ?_ | refine go2 (fun hh => ?_) (fun hh => ?_) | fail)
   refine ⟨hlt, _, _, hp, tb, rfl, HHP.out, ?_, ?_, ?_, ?_, ?_, ?_, ?_, ?_, ?_, ?_, ?_, ?_, by omega⟩
   case refine_9 => rw [U1.out, ← HK.out]; simp only [go_sem, *, Nat.reduceLT, Int.reduceEq, Int.reduceBEq, Int.reduceLE, Int.reduceLT, Nat.reduceAdd, Nat.reduceBEq, Nat.reduceEqDiff, reduceIte, Nat.reduceLeDiff, Nat.reduceMul, Nat.reduceSub, reduceCtorEq]
   case refine_10 => rw [U2.out, ← HK.out]; simp only [go_sem, *, Nat.reduceLT, Int.reduceEq, Int.reduceBEq, Int.reduceLE, Int.reduceLT, Nat.reduceAdd, Nat.reduceBEq, Nat.reduceEqDiff, reduceIte, Nat.reduceLeDiff, Nat.reduceMul, Nat.reduceSub, reduceCtorEq]
   all_goals exact Z2
 ·rw [decide_eq_false hlt] at hdl
  have hin : i = ny x := by omega
  subst hin
  clear hlt hi
  cases hn : upAny (fun p => !G p) x y (ny x) with
  | false =>
   rw [hn] at e10
   rw [hn] at HR
   repeat' (first | refine goS ?_ | refine go2 (fun hh => ?_) (fun hh => ?_) | fail)
   all_goals (simp only [resV_def (X := dX c) Tryz.func108, Tryz.results108]; first | exact J5 | refine J6 ?_)
   exact ⟨hp, tb, by rw [HR.out]; rfl, HHP.out⟩
  | true =>
   rw [hn] at e10
   rw [hn] at HR
   cases hsm : upAny G x y (ny x) with
   | false =>
    rw [hsm] at e9
    rw [hsm] at HR
    repeat' (first | refine goS ?_ | refine go2 (fun hh => ?_) (fun hh => ?_) | fail)
    all_goals (simp only [resV_def (X := dX c) Tryz.func108, Tryz.results108]; first | exact J5 | refine J6 ?_)
    exact ⟨hp, tb, by rw [HR.out]; rfl, HHP.out⟩
   | true =>
    rw [hsm] at e9
    rw [hsm] at HR
    repeat' (first | refine goS ?_ | refine go2 (fun hh => ?_) (fun hh => ?_) | fail)
    all_goals (simp only [resV_def (X := dX c) Tryz.func108, Tryz.results108]; first | exact J5 | refine J6 ?_)
    exact ⟨hp, tb, by rw [HR.out]; rfl, HHP.out⟩
end Go.AM
namespace Go.AM
open Go Go.Proofs
variable [Keep]
attribute [local irreducible] W WO WO1 WD WQ WT thenQ blockQ endR isRet retK Cl ClR
noncomputable def cGP : Itr
 | 99 => some (pureFn sp99)
 | 101 => some (flatFn sp101)
 | 103 => some (onHeap h103)
 | _ => none
theorem cGP_sound : Sound (dX cGP) := dX_sound (fun f g h => by
 unfold cGP at h
 split at h
 ·cases h; exact F99
 ·cases h; exact F101
 ·cases h; exact H103
 ·cases h)
def askV (ok : Bool) (A B : Option (List Sp)) : AV :=
 if ok then (match A, B with
  | some a, some b => .tuple [.agg [slN (a.map spC.enc), slN (b.map spC.enc)], .int .i64 0]
  | _, _ => .tuple [.agg [.nilslice, .nilslice], .int .i64 7]) else .tuple [.agg [.nilslice, .nilslice], .int .i64 2]
def askOk (hs st : List Pt) (off : Int) (m fine : Bool) : Bool := measB hs off && m && decide (st.length = hs.length) && fine
def sp107 : List AV → Option AV
 | [.agg [ca, .int .i64 off], .agg [sa, .int .i64 cxl, .int .i64 cxh, .int .i64 cyl, .int .i64 cyh, .int .i64 wxl, .int .i64 wxh, .int .i64 wyl, .int .i64 wyh, ra], .bool fine] => match slV ptC ca, slV ptC sa, slV rdgC ra with
  | some hs, some st, some rs => some (askV (askOk hs st off (machB st ⟨cxl, cxh⟩ ⟨cyl, cyh⟩ ⟨wxl, wxh⟩ ⟨wyl, wyh⟩ rs) fine) (boundsS (ax0 ⟨cxl, cxh⟩ ⟨wxl, wxh⟩ rs [])) (boundsS (ax1 ⟨cyl, cyh⟩ ⟨wyl, wyh⟩ rs [])))
  | _, _, _ => none
 | _ => none
theorem p107 : ∀ args v, sp107 args = some v → v.pur = true := by
 intro args v h
 unfold sp107 at h
 split at h
 ·split at h
  ·have h := Option.some.inj h
   subst h
   unfold askV
   split
   ·split
    ·simp [AV.pur, AV.purL, slN_pur (enc_pur spC _)]
    ·rfl
   ·rfl
  ·cases h
 ·cases h
attribute [local irreducible] boundsS machB measB
set_option maxHeartbeats 4000000 in
theorem F107 : IntrFn Tryz.prog 107 (pureFn sp107) := by
  refine pure_fn (X := dX cGP) cGP_sound p107 ?_
  intro args v h
  unfold sp107 at h
  split at h
  · rename_i ca off sa cxl cxh cyl cyh wxl wxh wyl wyh ra fine
    split at h
    · rename_i hs st rs hc hl hr
      have h := Option.some.inj h
      subst h
      have o1 := sl_out hc
      have o2 := sl_out hl
      have o3 := sl_out hr
      have l1 := sl_len hc
      have l2 := sl_len hl
      obtain ⟨one1, t1⟩ := sl_one hc
      obtain ⟨one2, t2⟩ := sl_one hl
      obtain ⟨one3, t3⟩ := sl_one hr
      have k99 : ∀ h, Cl (dX cGP) 99 [.agg [ca, .int .i64 off]] h (.ret (.bool (measB hs off)) h none) := fun h => Cl.intr (g := pureFn sp99) rfl (by simp [pureFn, AV.pur, AV.purL, sl_pur hc, sp99, hc])
      have k101 := fun hp => K101 (X := dX cGP) rfl sa ra st rs ⟨cxl, cxh⟩ ⟨cyl, cyh⟩ ⟨wxl, wxh⟩ ⟨wyl, wyh⟩ hl hr hp
      have hk : ∀ (hp : Heap) (mv : AV), mv.one = true → Cl (dX cGP) 103 [.agg [sa, .int .i64 cxl, .int .i64 cxh, .int .i64 cyl, .int .i64 cyh, .int .i64 wxl, .int .i64 wxh, .int .i64 wyl, .int .i64 wyh, ra, mv], .nilslice] hp (.ret (knV (ax0 ⟨cxl, cxh⟩ ⟨wxl, wxh⟩ rs []) (ax1 ⟨cyl, cyh⟩ ⟨wyl, wyh⟩ rs [])) hp none) :=
        fun hp mv hmv => K103h (X := dX cGP) rfl sa ra mv ⟨cxl, cxh⟩ ⟨cyl, cyh⟩ ⟨wxl, wxh⟩ ⟨wyl, wyh⟩ rs hr one2 hmv hp
      have h102 := fun n m => C102 cGP rfl sa ra ⟨cxl, cxh⟩ ⟨cyl, cyh⟩ ⟨wxl, wxh⟩ ⟨wyl, wyh⟩ (slV_is hl).1.frz1 (slV_is hr).1.frz1 n m
      have HOK := Lib.hid (show askOk hs st off (machB st ⟨cxl, cxh⟩ ⟨cyl, cyh⟩ ⟨wxl, wxh⟩ ⟨wyl, wyh⟩ rs) fine = (measB hs off && machB st ⟨cxl, cxh⟩ ⟨cyl, cyh⟩ ⟨wxl, wxh⟩ ⟨wyl, wyh⟩ rs && decide (st.length = hs.length) && fine) from rfl)
      generalize askOk hs st off (machB st ⟨cxl, cxh⟩ ⟨cyl, cyh⟩ ⟨wxl, wxh⟩ ⟨wyl, wyh⟩ rs) fine = ok at *
      generalize machB st ⟨cxl, cxh⟩ ⟨cyl, cyh⟩ ⟨wxl, wxh⟩ ⟨wyl, wyh⟩ rs = b2 at *
      generalize measB hs off = b1 at *
      generalize ax0 ⟨cxl, cxh⟩ ⟨wxl, wxh⟩ rs [] = A at *
      generalize ax1 ⟨cyl, cyh⟩ ⟨wyl, wyh⟩ rs [] = B at *
      have H102 := Lib.hid h102
      clear hc hl hr h102
      refine ClR.walk (c := _) rfl Tryz.func107 rfl (by kernel_rfl) rfl isRet_fail ?_
      simp only [entryEnv, Nat.reduceAdd, emptyHp]
      have hcase : (b1 = false) ∨ (b1 = true ∧ b2 = false) ∨ (b1 = true ∧ b2 = true ∧ ((st.length : Int) != (hs.length : Int)) = true) ∨ (b1 = true ∧ b2 = true ∧ ((st.length : Int) != (hs.length : Int)) = false ∧ fine = false) ∨ (b1 = true ∧ b2 = true ∧ ((st.length : Int) != (hs.length : Int)) = false ∧ fine = true) := by
        cases b1 <;> cases b2 <;> cases fine <;> cases ((st.length : Int) != (hs.length : Int)) <;> simp
      rcases hcase with q1 | ⟨q1, q2⟩ | ⟨q1, q2, q3⟩ | ⟨q1, q2, q3, q4⟩ | ⟨q1, q2, q3, q4⟩
      case inr.inr.inr.inr =>
        have hlen : decide (st.length = hs.length) = true := by
          have := q3
          simp at this ⊢
          omega
        have hok : ok = true := by rw [HOK.out, q1, q2, hlen, q4]; rfl
        subst q1 q2 q4
        rw [hok]
        clear HOK hok hlen
        rw [knV_def] at hk
        have none1 : ∀ (o p : Option (List Sp)), o = none ∨ p = none → knO o p = .tuple [.agg [.nilslice, .nilslice], .bool false] ∧ askV true o p = .tuple [.agg [.nilslice, .nilslice], .int .i64 7] := by
          intro o p ho
          rcases ho with rfl | rfl
          · exact ⟨rfl, rfl⟩
          · cases o <;> exact ⟨rfl, rfl⟩
        by_cases hAB : boundsS A = none ∨ boundsS B = none
        · obtain ⟨e1, e2⟩ := none1 _ _ hAB
          rw [e1] at hk
          rw [e2]
          have HK := Lib.hid hk
          clear hk e1 e2 hAB none1
          repeat' (first | refine goS ?_ | (apply U6; exact Z1; exact Z1; (focus (simp only [List.nil_append, List.append_nil]; first | exact k99 _ | exact k101 _ | exact H102.out _ _ | exact HK.out _ _ rfl)); simp only [pM, pN, rR, rP]) | refine go2 (fun hh => ?_) (fun hh => ?_) | fail)
          all_goals (simp only [resV_def (X := dX cGP) Tryz.func107, Tryz.results107]; first | exact J5 | refine J6 ?_)
        · obtain ⟨a, hA⟩ : ∃ a, boundsS A = some a := by cases h : boundsS A with | none => exact absurd (.inl h) hAB | some a => exact ⟨a, rfl⟩
          obtain ⟨b, hB⟩ : ∃ b, boundsS B = some b := by cases h : boundsS B with | none => exact absurd (.inr h) hAB | some a => exact ⟨a, rfl⟩
          have e1 : knO (some a) (some b) = .tuple [.agg [slN (a.map spC.enc), slN (b.map spC.enc)], .bool true] := rfl
          have e2 : askV true (some a) (some b) = .tuple [.agg [slN (a.map spC.enc), slN (b.map spC.enc)], .int .i64 0] := rfl
          rw [hA, hB, e1] at hk
          rw [hA, hB, e2]
          have HK := Lib.hid hk
          have f1 := (slN_is (a.map spC.enc)).frz1
          have f2 := (slN_is (b.map spC.enc)).frz1
          have u1 := (slN_is (a.map spC.enc)).out
          have u2 := (slN_is (b.map spC.enc)).out
          have u3 := (slN_is (a.map spC.enc)).tup
          have u4 := (slN_is (b.map spC.enc)).tup
          generalize slN (a.map spC.enc) = la at *
          generalize slN (b.map spC.enc) = lb at *
          clear hk e1 e2 hAB none1 hA hB
          repeat' (first | refine goS ?_ | (apply U6; exact Z1; exact Z1; (focus (simp only [List.nil_append, List.append_nil]; first | exact k99 _ | exact k101 _ | exact H102.out _ _ | exact HK.out _ _ rfl)); simp only [pM, pN, rR, rP]) | refine go2 (fun hh => ?_) (fun hh => ?_) | fail)
          all_goals (simp only [resV_def (X := dX cGP) Tryz.func107, Tryz.results107]; first | exact J5 | refine J6 ?_)
      all_goals (
        have hok : ok = false := by
          rw [HOK.out]
          first
            | (rw [q1]; rfl)
            | (rw [q1, q2]; rfl)
            | (have hlen : decide (st.length = hs.length) = false := by
                have := q3
                simp at this ⊢
                omega
               rw [q1, q2, hlen]; rfl)
            | (rw [q4]; simp)
        rw [hok]
        simp only [askV, Bool.false_eq_true, if_false]
        clear HOK hok hk
        subst q1
        repeat' (first | refine goS ?_ | (apply U6; exact Z1; exact Z1; (focus (simp only [List.nil_append, List.append_nil]; first | exact k99 _ | exact k101 _)); simp only [pM, pN, rR, rP]) | refine go2 (fun hh => ?_) (fun hh => ?_) | fail)
        all_goals (simp only [resV_def (X := dX cGP) Tryz.func107, Tryz.results107]; first | exact J5 | refine J6 ?_))
    · cases h
  · cases h
end Go.AM
namespace Go.AM
open Go
variable [Keep]
def SeeV {α : Type} (h : Heap) (c : Cd α) (a : AV) (l : List α) : Prop := ∃ a', viewV h a = some a' ∧ slV c a' = some l
theorem SeeV.of {α : Type} {c : Cd α} {a : AV} {l : List α} (hl : slV c a = some l) (h : Heap) : SeeV h c a l := by
 have hp := sl_pur hl
 rcases (slV_is hl).1 with ⟨rfl | rfl, _⟩ | rfl
 ·exact ⟨_, rfl, hl⟩
 ·exact ⟨_, rfl, hl⟩
 ·exact ⟨_, by simp only [viewV, hp, if_true], hl⟩
theorem viewD_mach {h : Heap} {sa ra sa' ra' : AV} {cxl cxh cyl cyh wxl wxh wyl wyh : Int} (h1 : viewV h sa = some sa') (h2 : viewV h ra = some ra') :
  viewD h (.agg [sa, .int .i64 cxl, .int .i64 cxh, .int .i64 cyl, .int .i64 cyh, .int .i64 wxl, .int .i64 wxh, .int .i64 wyl, .int .i64 wyh, ra]) = some (.agg [sa', .int .i64 cxl, .int .i64 cxh, .int .i64 cyl, .int .i64 cyh, .int .i64 wxl, .int .i64 wxh, .int .i64 wyl, .int .i64 wyh, ra']) := by
 have e : ∀ n, viewV h (.int .i64 n) = some (.int .i64 n) := fun n => rfl
 simp only [viewD, viewVs, h1, h2, e, Option.map_some]
theorem viewD_but {h : Heap} {ha ha' : AV} {err : Int} (h1 : viewV h ha = some ha') : viewD h (.agg [ha, .int .i64 err]) = some (.agg [ha', .int .i64 err]) := by
 have e : ∀ n, viewV h (.int .i64 n) = some (.int .i64 n) := fun n => rfl
 simp only [viewD, viewVs, h1, e, Option.map_some]
end Go.AM
