/-
  A part of the proof: contracts of functions.
-/
import Derived.Test.YtlhcjccaimmhgaaGreatDoorVAN
import Derived.Test.YtlhcjccaimmhgaaGreatDoorVAI
import Derived.Test.YtlhcjccaimmhgaaGreatDoorVAO
import Derived.Test.YtlhcjccaimmhgaaGreatDoorVAK
import Derived.Test.YtlhcjccaimmhgaaGreatDoorVAJ
set_option linter.unusedSectionVars false
set_option linter.unusedVariables false
set_option linter.unusedSimpArgs false
set_option maxRecDepth 100000
namespace Go.AM
open Go Go.Proofs
variable [Keep]
attribute [local irreducible] W WO WO1 WD WQ WT thenQ blockQ endR isRet retK Cl ClR
attribute [local irreducible] roundQ RdR clR
theorem Blt.ext {h h' : Heap} {v : AV} {sz : Nat} {l : List AV} (b : Blt h v sz l) (k : HExt h h') : Blt h' v sz l := by
 rcases b with q | ⟨id, h1, h2, h3, h4⟩
 ·exact .inl q
 ·exact .inr ⟨id, h1, (k.2 id h3).trans h2, Nat.lt_of_lt_of_le h3 k.1, h4⟩
theorem BltN.stay {b : Nat} {h h' : Heap} {v : AV} {sz : Nat} {l : List AV} (q : BltN b h v sz l) (k : h.next <= h'.next /\ ∀ id, id < h.next -> h'.get id = h.get id) : Blt h' v sz l := q.blt.ext k
section
variable {X : Ctx} {ops : Array Oper} {K P : AV -> Fr -> Prop} {F : Fr} {d : Option Tmp} {T : TypeId} {p : String} {af : Array Edge}
theorem WO1.appendC {args : Array Operand} {at_ : Array TypeId} {t u e e' : TypeId} {tl : List TypeId} {sz : Nat} {y : AV} {l : List AV} (hargs : F.opvs args.toList = some [.nilslice, y]) (ht : at_.toList = t :: u :: tl) (hu : X.P.underlying u = some (.slice e'))
  (hel : elemT X.P t = some e) (hs : szT X.P e = sz) (hrow : rowable X.P e = true) (hb : Blt F.hp y sz l) (hsz : ∀ v ∈ l, v.cells.length = sz) (hlen : l.length <= most)
  (h : ∀ v' h', BltN F.hp.next h' v' sz l -> outV (some v') = some v' -> (F.hp.next <= h'.next /\ ∀ id, id < F.hp.next -> h'.get id = F.hp.get id) -> K v' (({ F with hp := h' } : Fr).put d v')) : WO1 X ops ⟨d, .call ⟨.builtin .append, args, at_⟩, T, p, af, none⟩ F K P := by
 subst hs
 have hy := hb.elems
 have h1 : (l.all fun v => v.cells.length == szT X.P e) = true := List.all_eq_true.2 fun v hv => by simpa using hsz v hv
 by_cases hl : l = []
 ·subst hl
  refine U5 (v := .nilslice) (F' := F) rfl (fun cl rd => ?_) ?_
  ·simp only [efV, Fr.callOp, Fr.builtinE, Fr.appendE, ht, hargs, hu]
   have e1 : appendV X.P F t .nilslice [] = some (.nilslice, F) := by simp [appendV, hel, hrow]
   cases y <;> first | (simp only [hy, e1, okO]; done) | simp [Heap.elems] at hy
  ·exact h .nilslice F.hp BltN.nil rfl ⟨Nat.le_refl _, fun _ _ => rfl⟩
 ·have h2 : ¬ l.length = 0 := by simpa using hl
  have e1 : appendV X.P F t .nilslice l = some (.row F.hp.next 0 l.length, { F with hp := F.hp.new (.rw (szT X.P e) l) }) := by
   simp [appendV, hel, h1, hrow, hlen, h2, hl]
  refine U5 (v := .row F.hp.next 0 l.length) (F' := { F with hp := F.hp.new (.rw (szT X.P e) l) }) rfl (fun cl rd => ?_) (h _ _ (.inr ⟨F.hp.next, rfl, by rw [Heap.get_new, if_pos rfl], Nat.le_refl _, Nat.lt_succ_self _, hl⟩) rfl ⟨Nat.le_succ _, fun id hi => by rw [Heap.get_new, if_neg (by omega)]⟩)
  simp only [efV, Fr.callOp, Fr.builtinE, Fr.appendE, ht, hargs, hu]
  cases y <;> first | (simp only [hy, e1, okO]; done) | simp [Heap.elems] at hy
theorem WO1.appendW {args : Array Operand} {at_ : Array TypeId} {t u e e' : TypeId} {tl : List TypeId} {sz : Nat} {x y : AV} {new l : List AV} (hb : Blt F.hp x sz l) (hargs : F.opvs args.toList = some [x, y]) (ht : at_.toList = t :: u :: tl) (hu : X.P.underlying u = some (.slice e'))
  (hel : elemT X.P t = some e) (hs : szT X.P e = sz) (hrow : rowable X.P e = true) (hy : F.hp.elems y = some new) (hsz : ∀ v ∈ new, v.cells.length = sz) (hlen : l.length + new.length <= most) (hne : new ≠ [])
  (h : ∀ v' h', Blt h' v' sz (l ++ new) -> outV (some v') = some v' -> Keeps F.hp h' x -> v' = .row F.hp.next 0 (l ++ new).length -> K v' (({ F with hp := h' } : Fr).put d v')) : WO1 X ops ⟨d, .call ⟨.builtin .append, args, at_⟩, T, p, af, none⟩ F K P := by
 subst hs
 obtain ⟨v', h', q1, q2, q3, q4⟩ := append_blt hel hrow hsz hb hlen hne
 refine U5 (v := v') (F' := { F with hp := h' }) rfl (fun cl rd => ?_) (h v' h' q2 q2.out q3 q4)
 simp only [efV, Fr.callOp, Fr.builtinE, Fr.appendE, ht, hargs, hu]
 cases y <;> first | (simp only [hy, q1, okO]; done) | simp [Heap.elems] at hy
end
def kidsTo (p : List Nat) (m : Nat) : List (List Nat) := ((List.range m).filter fun v => !p.contains v).map fun v => p ++ [v]
def lev (n : Nat) : Nat -> List (List Nat)
 | 0 => [[]]
 | i + 1 => (lev n i).flatMap fun p => kidsTo p n
theorem kids_no {p : List Nat} {m : Nat} (h : p.contains m = true) : kidsTo p (m + 1) = kidsTo p m := by
 have h' : m ∈ p := by simpa using h
 simp only [kidsTo, List.range_succ, List.filter_append, List.map_append]
 simp [h']
theorem kids_yes {p : List Nat} {m : Nat} (h : p.contains m = false) : kidsTo p (m + 1) = kidsTo p m ++ [p ++ [m]] := by
 have h' : m ∉ p := by simpa using h
 simp only [kidsTo, List.range_succ, List.filter_append, List.map_append]
 simp [h']
theorem lev_len {n : Nat} : ∀ (i : Nat), ∀ p ∈ lev n i, p.length = i := by
 intro i
 induction i with
 | zero => intro p hp; simp [lev] at hp; simp [hp]
 | succ i ih =>
  intro p hp
  simp only [lev, List.mem_flatMap, kidsTo, List.mem_map] at hp
  obtain ⟨q, hq, v, _, rfl⟩ := hp
  simp [ih q hq]
theorem take_flat {α β : Type} (f : α -> List β) {l : List α} {k : Nat} {p : α} (h : l[k]? = some p) : (l.take (k + 1)).flatMap f = (l.take k).flatMap f ++ f p := by
 rw [take_next h, List.flatMap_append]
 simp
theorem lev_succ (n i : Nat) : lev n (i + 1) = (lev n i).flatMap fun p => kidsTo p n := rfl
theorem kids_zero (p : List Nat) : kidsTo p 0 = [] := rfl
theorem lev_zero (n : Nat) : lev n 0 = [[]] := rfl
theorem cont_take {p : List Nat} {j v m : Nat} (h : p[j]? = some v) : (p.take (j + 1)).contains m = ((p.take j).contains m || ((v : Int) == (m : Int))) := by
 rw [take_next h, Bool.eq_iff_iff]
 simp only [List.contains_iff_mem, List.mem_append, List.mem_singleton, Bool.or_eq_true, beq_iff_eq]
 constructor
 ·rintro (q | q)
  ·exact .inl q
  ·exact .inr (by omega)
 ·rintro (q | q)
  ·exact .inl q
  ·exact .inr (by omega)
def Elems (h : Heap) (es : List AV) (ps : List (List Nat)) : Prop := es.length = ps.length /\ ∀ (i : Nat) (r : AV) (p : List Nat), es[i]? = some r -> ps[i]? = some p -> Blt h r 1 (natsV p)
def RowsOf (es : List AV) : Prop := ∀ r ∈ es, ∃ id n, r = .row id 0 n
theorem Elems.ext {h h' : Heap} {es : List AV} {ps : List (List Nat)} (q : Elems h es ps) (k : HExt h h') : Elems h' es ps := ⟨q.1, fun i r p h1 h2 => (q.2 i r p h1 h2).ext k⟩
theorem Elems.add {h : Heap} {es : List AV} {ps : List (List Nat)} {r : AV} {p : List Nat} (q : Elems h es ps) (b : Blt h r 1 (natsV p)) : Elems h (es ++ [r]) (ps ++ [p]) := by
 refine ⟨by simp [q.1], fun i r' p' h1 h2 => ?_⟩
 have hl := q.1
 rcases Nat.lt_trichotomy i es.length with c | c | c
 ·rw [List.getElem?_append_left c] at h1
  rw [List.getElem?_append_left (by omega)] at h2
  exact q.2 i r' p' h1 h2
 ·subst c
  rw [List.getElem?_append_right (Nat.le_refl _)] at h1
  rw [hl, List.getElem?_append_right (Nat.le_refl _)] at h2
  simp at h1 h2
  subst h1 h2
  exact b
 ·rw [List.getElem?_eq_none (by simp; omega)] at h1
  cases h1
theorem not_one {h : Heap} {w r : AV} {es : List AV} {p : List Nat} (bw : Blt h w 1 es) (br : Blt h r 1 (natsV p)) (hr : RowsOf es) {id o n : Nat} (e : w = .row id o n) (id' o' n' : Nat) (e' : r = .row id' o' n') : id ≠ id' := by
 intro hid
 rcases bw with ⟨q, _⟩ | ⟨i, q1, q2, _, q3⟩
 ·rw [q] at e; cases e
 ·rcases br with ⟨s, _⟩ | ⟨j, s1, s2, _, s3⟩
  ·rw [s] at e'; cases e'
  ·rw [q1] at e
   rw [s1] at e'
   cases e
   cases e'
   subst hid
   rw [q2] at s2
   have hes : es = natsV p := by simpa using s2
   cases p with
   | nil => rw [hes] at q3; exact q3 rfl
   | cons a p =>
    have := hr (.int .i64 (a : Int)) (by rw [hes]; simp [natsV])
    obtain ⟨_, _, e⟩ := this
    cases e
theorem Blt.kept {h h' : Heap} {w r : AV} {es : List AV} {p : List Nat} (br : Blt h r 1 (natsV p)) (bw : Blt h w 1 es) (hr : RowsOf es) (k : Keeps h h' w) : Blt h' r 1 (natsV p) := by
 rcases br with q | ⟨j, s1, s2, s3, s4⟩
 ·exact .inl q
 ·refine .inr ⟨j, s1, ?_, Nat.lt_of_lt_of_le s3 k.1, s4⟩
  rw [k.2 j s3 fun o n e => not_one bw (.inr ⟨j, s1, s2, s3, s4⟩) hr e j 0 _ s1 rfl]
  exact s2
theorem Elems.kept {h h' : Heap} {w : AV} {es es0 : List AV} {ps : List (List Nat)} (q : Elems h es ps) (bw : Blt h w 1 es0) (hr : RowsOf es0) (k : Keeps h h' w) : Elems h' es ps := ⟨q.1, fun i r p h1 h2 => (q.2 i r p h1 h2).kept bw hr k⟩
theorem kids_small {n : Nat} (p : List Nat) : (kidsTo p n).length <= n := by
 unfold kidsTo
 rw [List.length_map]
 have := List.length_filter_le (fun v => !p.contains v) (List.range n)
 rw [List.length_range] at this
 exact this
theorem flat_small {n : Nat} (hn : n <= 4) : ∀ (l : List (List Nat)), (l.flatMap fun p => kidsTo p n).length <= l.length * 4 := by
 intro l
 induction l with
 | nil => simp
 | cons a l ih =>
  have := kids_small (n := n) a
  simp only [List.flatMap_cons, List.length_append, List.length_cons]
  omega
theorem lev_ne {n : Nat} (h1 : 1 <= n) (h4 : n <= 4) : lev n n ≠ [] := by
 have : n = 1 \/ n = 2 \/ n = 3 \/ n = 4 := by omega
 rcases this with rfl | rfl | rfl | rfl <;> decide
theorem nest_at {h : Heap} {u r : AV} {es : List AV} {k : Nat} (q : u = .vslice es \/ Blt h u 1 es) (hr : es[k]? = some r) (hc : r.cells = [r]) : ∃ ad, indexAddrV Tryz.prog h 194 u (.int .i64 ↑k) = some ad /\ ∀ (f : FuncId) (rnd : Bool) (e : Mp AV) (lm : Mp (Nat × List AV)) (df : List (AV × List AV)) (up : Option (AV × Bool)), (Fr.mk f rnd e lm h df up).mem ad = some ([r], 0) := by
 have hk : k < es.length := by
  rcases Nat.lt_or_ge k es.length with h' | h'
  ·exact h'
  ·rw [List.getElem?_eq_none h'] at hr; cases hr
 rcases q with rfl | b
 ·refine ⟨.vptr [r], ?_, fun f rnd e lm df up => rfl⟩
  have : idxV (.int .i64 (k : Int)) es.length = some k := by simp [idxV, hk]
  simp only [indexAddrV, Tryz.underlying194, ty_lay39, this, hr, hc, List.length_cons, List.length_nil, Nat.zero_add, if_true]
 ·obtain ⟨id, e1, e2⟩ := b.idx (P := Tryz.prog) (t := 194) (e := 39) (ag := false) Tryz.underlying194 ty_lay39 hk
  refine ⟨_, e1, fun f rnd e lm df up => ?_⟩
  rw [mem_eptr, e2]
  simp [hr, hc]
def ordsR (h : Heap) (n : Nat) (r : COut) : Prop := ∃ es h', r = .ret (.vslice es) h' none /\ HExt h h' /\ Elems h' es (lev n n)
theorem ordsR_fail {h : Heap} {n : Nat} : ¬ ordsR h n .fail := by rintro ⟨_, _, e, _⟩; cases e
theorem ordsR_ret {h h' : Heap} {n : Nat} {es : List AV} (k : HExt h h') (q : Elems h' es (lev n n)) : ordsR h n (.ret (.vslice es) h' none) := ⟨es, h', rfl, k, q⟩
end Go.AM
namespace Go.AM
open Go Go.Proofs
variable [Keep]
attribute [local irreducible] W WO WO1 WD WQ WT thenQ blockQ endR isRet retK Cl ClR
attribute [local irreducible] roundQ RdR clR ordsR lev kidsTo
theorem lev_small {n : Nat} (hn : n <= 4) : ∀ i, i <= 4 -> (lev n i).length <= 4 ^ i := by
 intro i
 induction i with
 | zero => intro _; rw [lev_zero]; simp
 | succ i ih =>
  intro hi
  rw [lev_succ]
  have h1 := ih (by omega)
  have h3 := flat_small hn (lev n i)
  rw [Nat.pow_succ]
  omega
theorem nat_at' {k : Nat} {o : List Nat} {v : Nat} (hp : o[k]? = some v) : (natsV o)[k]? = some (.int .i64 ↑v) := by simp [natsV, hp]
set_option maxHeartbeats 8000000 in
theorem C129 (c : Itr) (hc : c 129 = none) (n : Nat) (hn1 : 1 <= n) (hn : n <= 4) (h : Heap) : ClR (dX c) 129 [.int .i64 ↑n] h (ordsR h n) := by
 refine ClR.walk (c := _) hc Tryz.func129 rfl (by kernel_rfl) rfl ordsR_fail ?_
 simp only [entryEnv, Nat.reduceAdd]
 have HN1 := Lib.hid hn1
 have HN := Lib.hid hn
 clear hn1 hn
 repeat' (first | refine goS ?_ | refine go2 (fun hh => ?_) (fun hh => ?_) | fail)
 refine W.loopN n (fun i F => ∃ e hp u es, F = Fr.mk 129 false e .nil hp [] none /\ HExt h hp /\ (u = .vslice es \/ BltN h.next hp u 1 es) /\ Elems hp es (lev n i) /\ (1 <= i -> RowsOf es) /\ e.get 0 = some (.int .i64 ↑n) /\ e.get 3 = some u /\ e.get 4 = some (.int .i64 ↑i) /\ i <= n) ?_ ?_
 ·refine ⟨_, h, _, [.nilslice], rfl, HExt.refl h, .inl rfl, ?_, fun h => absurd h (by omega), ?_, ?_, ?_, by omega⟩
  ·rw [lev_zero]
   refine ⟨rfl, fun i r p h1 h2 => ?_⟩
   cases i with
   | zero => simp at h1 h2; subst h1 h2; exact Blt.nil
   | succ i => simp at h1
  all_goals first | exact Z2 | simp [go_sem, *]
 rintro i F ⟨e, hb, u, es, rfl, hx, hu, hel, hro, h0, h3, h4, hi⟩
 have HX := Lib.hid hx
 have HU := Lib.hid hu
 have HEL := Lib.hid hel
 have HRO := Lib.hid hro
 clear hx hu hel hro
 by_cases hlt : i < n
 ·have hd : decide ((i : Int) < (n : Int)) = true := by simpa using hlt
  have hw := wrap_succ (m := n) hlt (by have := HN.out; unfold maxL; omega)
  have hes : es.length <= 256 := by
   have h1 := HEL.out.1
   have h2 := lev_small HN.out i (by have := HN.out; omega)
   have h3 : 4 ^ i <= 4 ^ 4 := Nat.pow_le_pow_right (by omega) (by have := HN.out; omega)
   omega
  have HES := Lib.hid hes
  clear hes
  repeat' (first | refine goS ?_ | refine go2 (fun hh => ?_) (fun hh => ?_) | fail)
  refine W.loopN es.length (fun k F => ∃ e hq w es', F = Fr.mk 129 false e .nil hq [] none /\ HExt hb hq /\ BltN hb.next hq w 1 es' /\ Elems hq es' (((lev n i).take k).flatMap fun p => kidsTo p n) /\ RowsOf es' /\ e.get 0 = some (.int .i64 ↑n) /\ e.get 3 = some u /\ e.get 4 = some (.int .i64 ↑i) /\ e.get 5 = some w /\ e.get 6 = some (.int .i64 ↑k) /\ k <= es.length) ?_ ?_
  ·refine ⟨_, hb, .nilslice, [], rfl, HExt.refl hb, BltN.nil, ⟨by simp, fun i r p h1 => by simp at h1⟩, fun r hr => by simp at hr, ?_, ?_, ?_, ?_, ?_, by omega⟩ <;> first | exact Z2 | simp [go_sem, *]
  clear h0 h3 h4 hd
  rintro k F ⟨e, hq, w, es', rfl, hx2, hbw, hel2, hro2, h0, h3, h4, h5, h6, hk⟩
  have HX2 := Lib.hid hx2
  have HBW := Lib.hid hbw
  have HEL2 := Lib.hid hel2
  have HRO2 := Lib.hid hro2
  clear hx2 hbw hel2 hro2
  have lu : lenS u = some es.length := by
   rcases HU.out with rfl | q
   ·rfl
   ·exact q.blt.len
  have ou : outV (some u) = some u := by
   rcases HU.out with rfl | q
   ·rfl
   ·exact q.blt.out
  by_cases hkl : k < es.length
  ·have hd : decide ((k : Int) < (es.length : Int)) = true := by simpa using hkl
   have hw2 := wrap_succ (m := es.length) hkl (by have := HES.out; unfold maxL; omega)
   obtain ⟨r, hr⟩ := get_some hkl
   obtain ⟨p, hp⟩ := get_some (show k < (lev n i).length by rw [<- HEL.out.1]; exact hkl)
   have hpl := lev_len i p (List.mem_of_getElem? hp)
   have HP := Lib.hid hp
   have HRR := Lib.hid hr
   have HPL := Lib.hid hpl
   clear hr hp hpl
   repeat' (first | refine goS ?_ | refine go2 (fun hh => ?_) (fun hh => ?_) | fail)
   refine W.loopN n (fun m F => ∃ e hr w es'', F = Fr.mk 129 false e .nil hr [] none /\ HExt hb hr /\ BltN hb.next hr w 1 es'' /\ Elems hr es'' ((((lev n i).take k).flatMap fun p => kidsTo p n) ++ kidsTo p m) /\ RowsOf es'' /\ e.get 0 = some (.int .i64 ↑n) /\ e.get 3 = some u /\ e.get 4 = some (.int .i64 ↑i) /\ e.get 5 = some w /\ e.get 6 = some (.int .i64 ↑k) /\ e.get 7 = some (.int .i64 ↑m) /\ m <= n) ?_ ?_
   ·refine ⟨_, hq, w, es', rfl, HX2.out, HBW.out, ?_, HRO2.out, ?_, ?_, ?_, ?_, ?_, ?_, by omega⟩
    ·rw [kids_zero, List.append_nil]; exact HEL2.out
    all_goals first | exact Z2 | simp [go_sem, *]
   clear h0 h3 h4 h5 h6 hd HX2 HBW HEL2 HRO2
   rintro m F ⟨e, hr, w, es'', rfl, hx3, hbw, hel3, hro3, h0, h3, h4, h5, h6, h7, hm⟩
   have HX3 := Lib.hid hx3
   have HBW := Lib.hid hbw
   have HEL3 := Lib.hid hel3
   have HRO3 := Lib.hid hro3
   clear hx3 hbw hel3 hro3
   by_cases hmn : m < n
   ·have hd : decide ((m : Int) < (n : Int)) = true := by simpa using hmn
    have hw3 := wrap_succ (m := n) hmn (by have := HN.out; unfold maxL; omega)
    have hBr : Blt hr r 1 (natsV p) := (HEL.out.2 k r p HRR.out HP.out).ext HX3.out
    have hu2 : u = .vslice es \/ Blt hr u 1 es := by
     rcases HU.out with q | q
     ·exact .inl q
     ·exact .inr (q.blt.ext HX3.out)
    have cr := hBr.cells
    obtain ⟨ad, hix, hmem⟩ := nest_at hu2 HRR.out cr
    have lr := hBr.len
    rw [natsV_len] at lr
    have orr := hBr.out
    have tr := hBr.tup
    have ow := HBW.out.blt.out
    simp only [AV.cells] at cr
    simp only [isTuple] at tr
    clear hu2
    repeat' (first | refine goS ?_ | refine go2 (fun hh => ?_) (fun hh => ?_) | fail)
    refine W.loopN p.length (fun j F => ∃ e, F = Fr.mk 129 false e .nil hr [] none /\ e.get 0 = some (.int .i64 ↑n) /\ e.get 3 = some u /\ e.get 4 = some (.int .i64 ↑i) /\ e.get 5 = some w /\ e.get 6 = some (.int .i64 ↑k) /\ e.get 7 = some (.int .i64 ↑m) /\ e.get 8 = some (.bool ((p.take j).contains m)) /\ e.get 9 = some (.int .i64 ↑j) /\ j <= p.length) ?_ ?_
    ·refine ⟨_, rfl, ?_, ?_, ?_, ?_, ?_, ?_, ?_, ?_, by omega⟩ <;> first | exact Z2 | simp [go_sem, *]
    clear h0 h3 h4 h5 h6 h7 hd
    rintro j F ⟨e, rfl, h0, h3, h4, h5, h6, h7, h8, h9, hj⟩
    by_cases hjp : j < p.length
    ·have hd : decide ((j : Int) < (p.length : Int)) = true := by simpa using hjp
     have hw4 := wrap_succ (m := p.length) hjp (by have := HPL.out; have := HN.out; unfold maxL; omega)
     obtain ⟨v, hv⟩ := get_some hjp
     obtain ⟨id, hidx, hgr⟩ := hBr.idx (P := Tryz.prog) (t := 39) (e := 3) (ag := false) Tryz.underlying39 ty_lay3 (k := j) (by rw [natsV_len]; exact hjp)
     have hav := nat_at' hv
     have hct := cont_take (m := m) hv
     have HB := Lib.hid hBr
     cases hcm : (p.take j).contains m with
     | true =>
      rw [hcm] at h8 hct
      have HCT := Lib.hid hct
      clear hct hcm hv hBr
      repeat' (first | refine goS ?_ | refine go2 (fun hh => ?_) (fun hh => ?_) | fail)
      refine ⟨hjp, _, rfl, ?_, ?_, ?_, ?_, ?_, ?_, ?_, ?_, by omega⟩
      case refine_7 => rw [HCT.out]; simp only [go_sem, *, Nat.reduceLT, Int.reduceEq, Int.reduceBEq, Int.reduceLE, Int.reduceLT, Nat.reduceAdd, Nat.reduceBEq, Nat.reduceEqDiff, reduceIte, Nat.reduceLeDiff, Nat.reduceMul, Nat.reduceSub, reduceCtorEq, Bool.true_or]
      all_goals exact Z2
     | false =>
      rw [hcm] at h8 hct
      have HCT := Lib.hid hct
      clear hct hcm hv hBr
      repeat' (first | refine goS ?_ | refine go2 (fun hh => ?_) (fun hh => ?_) | fail)
      refine ⟨hjp, _, rfl, ?_, ?_, ?_, ?_, ?_, ?_, ?_, ?_, by omega⟩
      case refine_7 => rw [HCT.out]; simp only [go_sem, *, Nat.reduceLT, Int.reduceEq, Int.reduceBEq, Int.reduceLE, Int.reduceLT, Nat.reduceAdd, Nat.reduceBEq, Nat.reduceEqDiff, reduceIte, Nat.reduceLeDiff, Nat.reduceMul, Nat.reduceSub, reduceCtorEq, Bool.false_or]
      all_goals exact Z2
    ·have hd : decide ((j : Int) < (p.length : Int)) = false := by simpa using hjp
     have hjl : j = p.length := by omega
     rw [hjl, List.take_length] at h8
     have HB := Lib.hid hBr
     clear hjl hjp hj
     cases hcm : p.contains m with
     | true =>
      rw [hcm] at h8
      have HK := Lib.hid (kids_no hcm)
      clear hcm hBr
      repeat' (first | refine goS ?_ | refine go2 (fun hh => ?_) (fun hh => ?_) | fail)
      refine ⟨hmn, _, hr, w, es'', rfl, HX3.out, HBW.out, ?_, HRO3.out, ?_, ?_, ?_, ?_, ?_, ?_, by omega⟩
      ·rw [HK.out]; exact HEL3.out
      all_goals exact Z2
     | false =>
      rw [hcm] at h8
      have HK := Lib.hid (kids_yes hcm)
      have hsz : ∀ v ∈ natsV p, v.cells.length = 1 := fun v hv => by
       obtain ⟨k, _, rfl⟩ := List.mem_map.1 hv
       rfl
      have hlen : (natsV p).length <= most := by
       rw [natsV_len, HPL.out]
       have := HN.out
       unfold most
       omega
      have hll : p.length + (0 + 1) <= most := by
       rw [HPL.out]
       have := HN.out
       unfold most
       omega
      have hBw := HBW.out
      have hlw : es''.length + (0 + 1) <= most := by
       have a1 := HEL3.out.1
       have a2 := flat_small HN.out ((lev n i).take k)
       have a3 := kids_small (n := m) p
       have a4 := HES.out
       have a5 := HN.out
       rw [List.length_append] at a1
       rw [List.length_take] at a2
       unfold most
       omega
      have HLL := Lib.hid hlw
      clear hcm
      repeat' (first | (apply WO1.appendC (t := 39) (u := 39) (e := 3) (e' := 3) (sz := 1) (tl := []) (y := r) (l := natsV p); (focus (first | exact Z2 | exact Z1)); exact rfl; exact Z2; exact Z2; exact Z2; (focus (exact ty_row39)); (focus (exact hBr)); (focus (exact hsz)); (focus (exact hlen)); (intro v1 hp1 hB1 ho1 hX1; simp only [pM, pN])) | (apply WO1.appendN (t := 39) (u := 39) (e := 3) (e' := 3) (sz := 1) (tl := []) (b := hr.next) (h0 := hr); (focus (exact hB1)); (focus (exact hX1)); exact Z1; exact rfl; exact Z2; exact Z2; exact Z2; (focus (exact ty_row39)); exact Z1; (focus (intro v hv; simp at hv; subst hv; rfl)); (focus (simp only [natsV_len, List.length_cons, List.length_nil]; exact hll)); (focus (simp)); (intro v2 hp2 hB2 ho2 hX2; have hc2 := hB2.blt.cells; have ht2 := hB2.blt.tup; have hl2 := hB2.blt.len; simp only [AV.cells] at hc2; simp only [isTuple] at ht2; simp only [pM, pN])) | (apply WO1.appendW (t := 194) (u := 194) (e := 39) (e' := 39) (sz := 1) (tl := []) (x := w) (l := es''); (focus (exact (hBw.stay hX2))); exact Z1; exact rfl; exact Z2; exact Z2; exact Z2; (focus (exact ty_row194)); exact Z1; (focus (intro v hv; simp at hv; subst hv; exact congrArg List.length hB2.blt.cells)); (focus (simp only [List.length_cons, List.length_nil]; exact hlw)); (focus (simp)); (intro v3 hp3 hB3 ho3 hK3 hE3; simp only [pM, pN])) | refine go1 ?_ | refine go2 (fun hh => ?_) (fun hh => ?_) | fail)
      have hK : Keeps hp2 hp3 w := hK3
      have hE : v3 = .row hp2.next 0 (es'' ++ [v2]).length := hE3
      have hX2' : HExt hr hp2 := hX2
      have bw : Blt hp2 w 1 es'' := HBW.out.blt.ext hX2'
      have hB2' : Blt hp2 v2 1 (natsV (p ++ [m])) := by simpa [natsV] using hB2.blt
      have HKK := Lib.hid hK
      have HEE := Lib.hid hE
      have HXX := Lib.hid hX2'
      have HBB := Lib.hid bw
      have HB22 := Lib.hid hB2'
      clear hK hE hX2' bw hB2' hK3 hE3
      refine ⟨hmn, _, hp3, v3, es'' ++ [v2], rfl, ?_, ?_, ?_, ?_, ?_, ?_, ?_, ?_, ?_, ?_, by omega⟩
      ·have a1 := HX3.out.1
       have a2 := HXX.out.1
       have a3 := HKK.out.1
       refine ⟨by omega, fun id hid => ?_⟩
       rw [HKK.out.2 id (by omega) fun o n e => ?_, HXX.out.2 id (by omega), HX3.out.2 id hid]
       rcases HBW.out with ⟨q, _⟩ | ⟨j, q, _, q2, _⟩
       ·rw [q] at e; cases e
       ·rw [q] at e; cases e; omega
      ·have a1 := HX3.out.1
       have a2 := HXX.out.1
       rcases hB3 with ⟨_, e⟩ | ⟨j, q1, q2, q3, q4⟩
       ·exact absurd e (by simp)
       ·refine .inr ⟨j, q1, q2, ?_, q3, q4⟩
        have := HEE.out
        rw [q1] at this
        cases this
        omega
      ·rw [HK.out, <- List.append_assoc]
       exact ((HEL3.out.ext HXX.out).kept HBB.out HRO3.out HKK.out).add (HB22.out.kept HBB.out HRO3.out HKK.out)
      ·intro r' hr'
       rcases List.mem_append.1 hr' with q | q
       ·exact HRO3.out r' q
       ·obtain rfl : r' = v2 := by simpa using q
        rcases hB2.blt with ⟨_, e⟩ | ⟨j, q1, _⟩
        ·exact absurd e (by simp)
        ·exact ⟨j, _, q1⟩
      all_goals first | exact Z2 | (have hEE := HEE.out; simp only [go_sem, *, Nat.reduceLT, Int.reduceEq, Int.reduceBEq, Int.reduceLE, Int.reduceLT, Nat.reduceAdd, Nat.reduceBEq, Nat.reduceEqDiff, reduceIte, Nat.reduceLeDiff, Nat.reduceMul, Nat.reduceSub, reduceCtorEq]; done)
   ·have hd : decide ((m : Int) < (n : Int)) = false := by simpa using hmn
    have hmn2 : m = n := by omega
    have HM := Lib.hid hmn2
    clear hmn2 hmn hm
    repeat' (first | refine goS ?_ | refine go2 (fun hh => ?_) (fun hh => ?_) | fail)
    refine ⟨hkl, _, hr, w, es'', rfl, HX3.out, HBW.out, ?_, HRO3.out, ?_, ?_, ?_, ?_, ?_, by omega⟩
    ·have := HEL3.out
     rw [HM.out] at this
     rw [take_flat _ HP.out]
     exact this
    all_goals exact Z2
  ·have hd : decide ((k : Int) < (es.length : Int)) = false := by simpa using hkl
   have hk2 : k = es.length := by omega
   have ow := HBW.out.blt.out
   have HK := Lib.hid hk2
   clear hk2 hkl hk
   repeat' (first | refine goS ?_ | refine go2 (fun hh => ?_) (fun hh => ?_) | fail)
   refine ⟨hlt, _, hq, w, es', rfl, HX.out.trans HX2.out, ?_, ?_, fun _ => HRO2.out, ?_, ?_, ?_, by omega⟩
   ·right
    rcases HBW.out with q | ⟨j, q1, q2, q3, q4, q5⟩
    ·exact .inl q
    ·exact .inr ⟨j, q1, q2, Nat.le_trans HX.out.1 q3, q4, q5⟩
   ·have := HEL2.out
    rw [HK.out, HEL.out.1, List.take_length] at this
    rw [lev_succ]
    exact this
   all_goals exact Z2
 ·have hd : decide ((i : Int) < (n : Int)) = false := by simpa using hlt
  have hin : i = n := by omega
  subst hin
  have ou : outV (some u) = some u := by
   rcases HU.out with rfl | q
   ·rfl
   ·exact q.blt.out
  clear hlt hi
  have hfz : ∃ h', freeze hb u = some (.vslice es, h') /\ HExt h h' /\ Elems h' es (lev i i) := by
   rcases HU.out with rfl | q
   ·exact ⟨hb, rfl, HX.out, HEL.out⟩
   ·obtain ⟨h', f1, f2, f3⟩ := q.blt.frz1
    have hne : es ≠ [] := by
     intro e
     have := HEL.out.1
     rw [e] at this
     exact lev_ne HN1.out HN.out (List.eq_nil_of_length_eq_zero this.symm)
    have hs : slN es = .vslice es := by
     cases es with
     | nil => exact absurd rfl hne
     | cons x es => rfl
    have hk : Keeps hb h' u := ⟨by omega, fun id _ hid => f3 id hid⟩
    refine ⟨h', ?_, ⟨by have := HX.out.1; omega, fun id hid => ?_⟩, HEL.out.kept q.blt (HRO.out HN1.out) hk⟩
    ·rw [hs] at f1
     rcases q with ⟨_, e⟩ | ⟨j, rfl, _⟩
     ·exact absurd e hne
     ·exact f1
    ·rw [f3 id fun o n e => ?_, HX.out.2 id hid]
     rcases q with ⟨q, _⟩ | ⟨j, q, _, q2, _⟩
     ·rw [q] at e; cases e
     ·rw [q] at e; cases e; omega
  obtain ⟨h', hz, hxx, hee⟩ := hfz
  have HXX := Lib.hid hxx
  have HEE := Lib.hid hee
  clear hxx hee
  repeat' (first | refine goS ?_ | refine go2 (fun hh => ?_) (fun hh => ?_) | fail)
  all_goals (simp only [resV_def (X := dX c) Tryz.func129, Tryz.results129]; first | exact J5 | refine J6 ?_)
  exact ordsR_ret HXX.out HEE.out
end Go.AM
namespace Go.AM
open Go Go.Proofs
variable [Keep]
attribute [local irreducible] W WO WO1 WD WQ WT thenQ blockQ endR isRet retK Cl ClR
def ptEq (p q : Pt) : Bool := p.x == q.x && p.y == q.y
noncomputable def cGA : Itr := fun _ => none
theorem cGA_sound : Sound (dX cGA) := dX_sound (fun f g h => by cases h)
def noTwin (l : List Pt) : Bool := (List.range l.length).all fun i => (List.range i).all fun k => !ptEq (l.getD i ⟨0, 0⟩) (l.getD k ⟨0, 0⟩)
def measB (l : List Pt) (off : Int) : Bool := noTwin l && allB l 2 20 && inB off 0 6
end Go.AM
namespace Go.AM
open Go Go.Proofs
variable [Keep]
attribute [local irreducible] W WO WO1 WD WQ WT thenQ blockQ endR isRet retK Cl ClR
theorem allB_P (l : List Pt) (least far : Int) : allB l least far = pointsB l least 4 far := by
 unfold allB pointsB
 rw [Bool.and_comm]
 congr 1
 rw [List.not_any_eq_all_not]
 congr 1
 funext p
 simp
def sp31 : List AV -> Option AV
 | [.agg [a, .int .i64 off]] => (slV ptC a).map fun l => .bool (measB l off)
 | _ => none
def matchR : Option (Nat × List Nat) -> AV
 | some (t, o) => .tuple [.int .i64 (t : Int), slN (natsV o), .int .i64 0]
 | none => .tuple [.int .i64 0, .nilslice, .int .i64 5]
def matchOk (hs ps : List Pt) (off : Int) : Bool := measB hs off && decide (hs.length = ps.length) && allB ps 2 80
def matchF (hs ps : List Pt) (off : Int) : AV := if matchOk hs ps off then matchR (matchS off hs ps) else .tuple [.int .i64 0, .nilslice, .int .i64 2]
def sp34 : List AV -> Option AV
 | [.agg [ca, .int .i64 off], la] => match slV ptC ca, slV ptC la with
  | some hs, some ps => some (matchF hs ps off)
  | _, _ => none
 | _ => none
end Go.AM
namespace Go.AM
open Go
def lexB : List Nat -> List Nat -> Bool
 | [], b => !b.isEmpty
 | a :: l, b :: r => if a = b then lexB l r else decide (a < b)
 | _ :: _, [] => false
structure IsOrd (n : Nat) (o : List Nat) : Prop where
 len : o.length = n
 lt : ∀ k ∈ o, k < n
 nd : o.Nodup
theorem find_spec {α : Type} {f : Nat -> Option α} {o : α} : ∀ {n : Nat}, (List.range n).findSome? f = some o -> ∃ i, i < n /\ f i = some o /\ ∀ j, j < i -> f j = none := by
 intro n
 induction n with
 | zero => intro h; simp at h
 | succ n ih =>
  intro h
  rw [List.range_succ, List.findSome?_append] at h
  cases h1 : (List.range n).findSome? f with
  | some x =>
   rw [h1] at h
   simp only [Option.some_or, Option.some.injEq] at h
   subst h
   obtain ⟨i, q1, q2, q3⟩ := ih h1
   exact ⟨i, by omega, q2, q3⟩
  | none =>
   rw [h1] at h
   refine ⟨n, by omega, by simpa using h, fun j hj => ?_⟩
   exact List.findSome?_eq_none_iff.1 h1 j (by simpa using hj)
section
variable {n : Nat} {acc : List Nat -> Bool}
theorem srch_none : ∀ (d : Nat) (p : List Nat), srch n acc d p = none -> p.length + d = n -> ∀ s, IsOrd n (p ++ s) -> acc (p ++ s) = false := by
 intro d
 induction d with
 | zero =>
  intro p h hl s hs
  have : s = [] := by
   have := hs.len
   simp at this
   exact List.eq_nil_of_length_eq_zero (by omega)
  subst this
  simp only [srch] at h
  rw [List.append_nil]
  cases ha : acc p with
  | false => rfl
  | true => rw [ha] at h; simp at h
 | succ d ih =>
  intro p h hl s hs
  cases s with
  | nil => have := hs.len; simp at this; omega
  | cons i s =>
   simp only [srch] at h
   have hi : i < n := hs.lt i (by simp)
   have h1 := List.findSome?_eq_none_iff.1 h i (by simpa using hi)
   have hc : ¬ p.contains i = true := by
    intro e
    have hm : i ∈ p := by simpa using e
    have := hs.nd
    rw [List.nodup_append] at this
    exact this.2.2 i hm i (by simp) rfl
   rw [if_neg hc] at h1
   have := ih (p ++ [i]) h1 (by simp; omega) s (by simpa using hs)
   simpa using this
end
end Go.AM
namespace Go.AM
open Go
variable [Keep]
theorem ok80 {p : Pt} : okPt 80 p = true ↔ (-80 <= p.x /\ p.x <= 80) /\ (-80 <= p.y /\ p.y <= 80) := by
 have : w64 (-80) = -80 := rfl
 simp only [okPt, inB, this, Bool.and_eq_true, decide_eq_true_eq]
def lin (t : Nat) (p : Pt) : Pt :=
 match t with
 | 0 => p
 | 1 => ⟨-p.y, p.x⟩
 | 2 => ⟨-p.x, -p.y⟩
 | 3 => ⟨p.y, -p.x⟩
 | 4 => ⟨-p.x, p.y⟩
 | 5 => ⟨-p.y, -p.x⟩
 | 6 => ⟨p.x, -p.y⟩
 | _ => ⟨p.y, p.x⟩
theorem lt8 {t : Nat} (h : t < 8) : t = 0 \/ t = 1 \/ t = 2 \/ t = 3 \/ t = 4 \/ t = 5 \/ t = 6 \/ t = 7 := by omega
theorem turn_lin {t : Nat} (ht : t < 8) {p : Pt} (hp : okPt 80 p = true) : turnP (t : Int) p = lin t p := by
 obtain ⟨x, y⟩ := p
 rw [ok80] at hp
 simp only at hp
 have e1 : w64 (-x) = -x := wrap_small (by omega) (by omega)
 have e2 : w64 (-y) = -y := wrap_small (by omega) (by omega)
 have e3 : w64 x = x := wrap_small (by omega) (by omega)
 have e4 : w64 y = y := wrap_small (by omega) (by omega)
 have c0 : w64 0 = 0 := rfl
 have c1 : w64 1 = 1 := rfl
 have c2 : w64 2 = 2 := rfl
 have c3 : w64 3 = 3 := rfl
 rcases lt8 ht with rfl | rfl | rfl | rfl | rfl | rfl | rfl | rfl <;> simp [turnP, lin, iter, quarter, flipX, e1, e2, e3, e4, c0, c1, c2, c3]
theorem lin_ok {t : Nat} (ht : t < 8) {p : Pt} (hp : okPt 80 p = true) : okPt 80 (lin t p) = true := by
 rw [ok80] at hp ⊢
 rcases lt8 ht with rfl | rfl | rfl | rfl | rfl | rfl | rfl | rfl <;> simp only [lin] <;> omega
theorem turn_ok {t : Nat} (ht : t < 8) {p : Pt} (hp : okPt 80 p = true) : okPt 80 (turnP (t : Int) p) = true := by
 rw [turn_lin ht hp]
 exact lin_ok ht hp
def after (s t : Nat) : Nat := if s / 4 = t / 4 then (t + 4 - s % 4) % 4 else 4 + (s + t) % 4
def farS (p q : Pt) : Int := w64 (w64 (w64 (p.x - q.x) * w64 (p.x - q.x)) + w64 (w64 (p.y - q.y) * w64 (p.y - q.y)))
def againS (turn : Int) : Nat -> List Pt -> Option (List Pt)
 | 0, l => some l
 | k + 1, l => if inB turn 0 7 && allB l 0 80 then (if pointsB (l.map (turnP turn)) l.length l.length 80 then againS turn k (l.map (turnP turn)) else none) else none
theorem all_turned {t : Nat} (ht : t < 8) {l : List Pt} (h : l.all (okPt 80) = true) : (l.map (turnP (t : Nat))).all (okPt 80) = true := by
 refine List.all_eq_true.2 fun q hq => ?_
 obtain ⟨p, hp, rfl⟩ := List.mem_map.1 hq
 exact turn_ok ht (List.all_eq_true.1 h p hp)
theorem iter_shift {α : Type} (f : α -> α) : ∀ (k : Nat) (a : α), iter f (k + 1) a = iter f k (f a) := by
 intro k
 induction k with
 | zero => intro a; rfl
 | succ k ih => intro a; exact congrArg f (ih a)
theorem again_ok {t : Nat} (ht : t < 8) : ∀ (k : Nat) (l : List Pt), l.all (okPt 80) = true -> l.length <= 4 -> againS (t : Nat) k l = some (iter (List.map (turnP (t : Nat))) k l) := by
 intro k
 induction k with
 | zero => intro l _ _; rfl
 | succ k ih =>
  intro l h hl
  have h1 : inB (t : Int) 0 7 = true := by simp only [inB, Bool.and_eq_true, decide_eq_true_eq]; omega
  have h2 : allB l 0 80 = true := by
   rw [allB_P]
   simp only [pointsB, h, inB, Bool.true_and, Bool.and_eq_true, decide_eq_true_eq]
   omega
  have h3 : pointsB (l.map (turnP (t : Nat))) l.length l.length 80 = true := by
   simp only [pointsB, all_turned ht h, inB, Bool.true_and, Bool.and_eq_true, decide_eq_true_eq, List.length_map]
   omega
  simp only [againS, h1, h2, h3, Bool.and_self, if_true]
  rw [ih _ (all_turned ht h) (by simpa using hl), iter_shift]
end Go.AM
namespace Go.AM
open Go Go.Proofs
variable [Keep]
attribute [local irreducible] W WO WO1 WD WQ WT thenQ blockQ endR isRet retK Cl ClR
attribute [local irreducible] farS
def sp33 : List AV -> Option AV
 | [.agg [.int .i64 x, .int .i64 y], .agg [.int .i64 a, .int .i64 b]] => some (.int .i64 (farS ⟨x, y⟩ ⟨a, b⟩))
 | _ => none
noncomputable def cGF : Itr
 | 26 => some (pureFn sp26)
 | 28 => some (flatFn sp28)
 | _ => none
theorem cGF_sound : Sound (dX cGF) := dX_sound (fun f g h => by
 unfold cGF at h
 split at h
 ·cases h; exact F26
 ·cases h; exact F28
 ·cases h)
def againV : Option (List Pt) -> AV
 | some l => slN (l.map ptC.enc)
 | none => .nilslice
def sp32 : List AV -> Option AV
 | [a, .int .i64 turn, .int .i64 times] => match slV ptC a with
  | some l => if inB times 1 4 = true then some (againV (againS turn times.toNat l)) else none
  | none => none
 | _ => none
theorem p32 : ∀ args v, sp32 args = some v -> v.pur = true := by
 intro args v h
 unfold sp32 at h
 split at h
 ·split at h
  ·split at h
   ·have h := Option.some.inj h
    subst h
    unfold againV
    split
    ·exact slN_pur (enc_pur ptC _)
    ·rfl
   ·cases h
  ·cases h
 ·cases h
theorem again_step (turn : Int) (k : Nat) (l : List Pt) : againS turn (k + 1) l = if inB turn 0 7 && allB l 0 80 then (if pointsB (l.map (turnP turn)) l.length l.length 80 then againS turn k (l.map (turnP turn)) else none) else none := rfl
attribute [local irreducible] againS
set_option maxHeartbeats 2000000 in
theorem F32 : IntrFn Tryz.prog 32 (pureFn sp32) := by
 refine pure_fn (X := dX cGF) cGF_sound p32 ?_
 intro args v h
 unfold sp32 at h
 split at h
 ·rename_i a turn times
  split at h
  ·rename_i l ha
   split at h
   ·rename_i ht
    have h := Option.some.inj h
    subst h
    simp only [inB, Bool.and_eq_true, decide_eq_true_eq] at ht
    obtain ⟨n, rfl⟩ : ∃ n : Nat, times = n := ⟨times.toNat, by omega⟩
    have hn : 1 <= n /\ n <= 4 := by omega
    have HN := Lib.hid hn
    have hout := sl_out ha
    have htn : (n : Int).toNat = n := by omega
    rw [htn]
    have HA := Lib.hid ha
    generalize hres : againV (againS turn n l) = res
    have HR := Lib.hid hres
    clear hres ht hn htn ha
    refine ClR.walk (c := _) rfl Tryz.func32 rfl (by kernel_rfl) rfl isRet_fail ?_
    simp only [entryEnv, Nat.reduceAdd, emptyHp]
    repeat' (first | refine goS ?_ | refine go2 (fun hh => ?_) (fun hh => ?_) | fail)
    refine W.loopN n (fun k F => ∃ e u cur, F = Fr.mk 32 false e .nil ⟨0, .nil⟩ [] none /\ slV ptC u = some cur /\ (k = 0 \/ u = slN (cur.map ptC.enc)) /\ againS turn (n - k) cur = againS turn n l /\ e.get 0 = some u /\ e.get 1 = some (.int .i64 turn) /\ e.get 2 = some (.int .i64 ↑n) /\ e.get 7 = some (.int .i64 ↑k) /\ k <= n) ?_ ?_
    ·refine ⟨_, a, l, rfl, HA.out, .inl rfl, rfl, ?_, ?_, ?_, ?_, ?_⟩ <;> first | exact Z2 | simp [go_sem, *]
    rintro k F ⟨e, u, cur, rfl, hu, hk0, hag, h0, h1, h2, h7, hk⟩
    have uo := sl_out hu
    have ul := sl_len hu
    have um := sl_max hu
    by_cases hlt : k < n
    ·have hd : decide ((k : Int) < (n : Int)) = true := by simpa using hlt
     have hw := wrap_succ (m := n) hlt (by have := HN.out; unfold maxL; omega)
     obtain ⟨j, hj⟩ : ∃ j, n - k = j + 1 := ⟨n - k - 1, by omega⟩
     have hj2 : n - (k + 1) = j := by omega
     have HJ2 := Lib.hid hj2
     rw [hj, again_step] at hag
     have k26' : ∀ h, Cl (dX cGF) 26 [u, .int .i64 turn] h (.ret (turnF cur turn) h none) := fun h => K26 rfl u cur turn hu h
     have HLT := Lib.hid hlt
     cases hc : inB turn 0 7 && allB cur 0 80 with
     | false =>
      rw [hc] at hag
      have k26 := k26'
      simp only [turnF, hc, Bool.false_eq_true, if_false] at k26
      have HAG := Lib.hid hag
      have b1 : ((2 : Int) != 0) = true := rfl
      clear hag hc k26' hu hk0 hj hj2 um hlt
      repeat' (first | refine goS ?_ | (apply U6; exact Z1; exact Z1; (focus (simp only [List.nil_append, List.append_nil]; first | exact k26 _)); simp only [pM, pN, rR, rP]) | refine go2 (fun hh => ?_) (fun hh => ?_) | fail)
      all_goals (simp only [resV_def (X := dX cGF) Tryz.func32, Tryz.results32]; first | exact J5 | refine J6 ?_)
      rw [<- HR.out, <- HAG.out]
      simp [againV]
     | true =>
      rw [hc] at hag
      have k26 := k26'
      simp only [turnF, hc, if_true] at k26
      have hlx : (cur.map (turnP turn)).length = cur.length := List.length_map _
      have hsx : slV ptC (slN ((cur.map (turnP turn)).map ptC.enc)) = some (cur.map (turnP turn)) := slV_slN (by rw [hlx]; exact um)
      have xo := sl_out hsx
      have k28' : ∀ h, Cl (dX cGF) 28 [slN ((cur.map (turnP turn)).map ptC.enc), .int .i64 ↑cur.length, .int .i64 ↑cur.length, .int .i64 80] h (.ret (.bool (pointsB (cur.map (turnP turn)) cur.length cur.length 80)) h none) := fun h => K28 rfl _ _ _ _ 80 hsx h
      have hfz := (slN_is ((cur.map (turnP turn)).map ptC.enc)).tup
      simp only [if_true] at hag
      generalize cur.map (turnP turn) = nx at *
      have b0 : ((0 : Int) != 0) = false := rfl
      have HSX := Lib.hid hsx
      cases hp : pointsB nx cur.length cur.length 80 with
      | false =>
       rw [hp] at hag k28'
       have k28 := k28'
       have HAG := Lib.hid hag
       clear hag hc k26' k28' hu hk0 hj hj2 um hlt hp hsx hlx
       generalize slN (nx.map ptC.enc) = w at *
       repeat' (first | refine goS ?_ | (apply U6; exact Z1; exact Z1; (focus (simp only [List.nil_append, List.append_nil]; first | exact k26 _ | exact k28 _)); simp only [pM, pN, rR, rP]) | refine go2 (fun hh => ?_) (fun hh => ?_) | fail)
       all_goals (simp only [resV_def (X := dX cGF) Tryz.func32, Tryz.results32]; first | exact J5 | refine J6 ?_)
       rw [<- HR.out, <- HAG.out]
       simp [againV]
      | true =>
       rw [hp] at hag k28'
       have k28 := k28'
       have HAG := Lib.hid hag
       clear hag hc k26' k28' hu hk0 hj hj2 um hlt hp hsx hlx
       generalize hgw : slN (nx.map ptC.enc) = w at *
       have HGW := Lib.hid hgw
       clear hgw
       repeat' (first | refine goS ?_ | (apply U6; exact Z1; exact Z1; (focus (simp only [List.nil_append, List.append_nil]; first | exact k26 _ | exact k28 _)); simp only [pM, pN, rR, rP]) | refine go2 (fun hh => ?_) (fun hh => ?_) | fail)
       refine ⟨HLT.out, _, w, nx, rfl, HSX.out, .inr HGW.out.symm, ?_, ?_, ?_, ?_, ?_, ?_⟩
       ·rw [HJ2.out, <- HAG.out]; rfl
       all_goals first | exact Z2 | (have := HLT.out; omega)
    ·have hd : decide ((k : Int) < (n : Int)) = false := by simpa using hlt
     have hkn : n - k = 0 := by omega
     have hk1 : k ≠ 0 := by have := HN.out; omega
     rw [hkn] at hag
     have huw : u = slN (cur.map ptC.enc) := by rcases hk0 with q | q; exact absurd q hk1; exact q
     have HUW := Lib.hid huw
     have HAG := Lib.hid hag
     have fz := (slV_is hu).1.freeze
     clear hag hkn hk1 hk0 huw hu
     repeat' (first | refine goS ?_ | refine go2 (fun hh => ?_) (fun hh => ?_) | fail)
     all_goals (simp only [resV_def (X := dX cGF) Tryz.func32, Tryz.results32]; first | exact J5 | refine J6 ?_)
     rw [<- HR.out, <- HAG.out, HUW.out]
     unfold againS
     rfl
   ·cases h
  ·cases h
 ·cases h
theorem K32 {X : Ctx} (hX : X.intr 32 = some (pureFn sp32)) (a : AV) (l : List Pt) (turn times : Int) (ha : slV ptC a = some l) (ht : inB times 1 4 = true) (h : Heap) : Cl X 32 [a, .int .i64 turn, .int .i64 times] h (.ret (againV (againS turn times.toNat l)) h none) :=
 Cl.intr hX (by simp [pureFn, AV.pur, AV.purL, sl_pur ha, sp32, ha, ht])
end Go.AM
namespace Go.AM
open Go Go.Proofs
variable [Keep]
attribute [local irreducible] W WO WO1 WD WQ WT thenQ blockQ endR isRet retK Cl ClR
theorem calm_rd {X : Ctx} {f : FuncId} {ops : Array Oper} {ts : List (Nat × Trace)} {i k : Nat} {r : List (Nat × Nat)} {y : Oper} {d : Option Tmp} {op : Op} {T : TypeId} {ps : String} {af : Array Edge}
  {f1 f2 : FuncId} {r1 r2 : Bool} {e1 e2 : Mp AV} {lm1 lm2 : Mp (Nat × List AV)} {hp1 hp2 : Heap} {df1 df2 : List (AV × List AV)} {up1 up2 : Option (AV × Bool)} {v1 v2 : AV} {a1 b2 : Fr}
  (h1 : ops[i]? = some ⟨d, op, T, ps, af, none⟩) (h2 : ops[k]? = some y) (h3 : traceOf ts i = some ⟨Fr.mk f1 r1 e1 lm1 hp1 df1 up1, v1, a1⟩) (h4 : traceOf ts k = some ⟨b2, v2, Fr.mk f2 r2 e2 lm2 hp2 df2 up2⟩)
  (h5 : isEffD X f ⟨d, op, T, ps, af, none⟩ = false) (h7 : rdV X (Fr.mk f1 r1 e1 lm2 hp2 df1 up1) d op = some v1) (h8 : r.all (calmPair X f ops ts) = true) : ((i, k) :: r).all (calmPair X f ops ts) = true := by
 simp only [List.all_cons, h8, Bool.and_true, calmPair, h1, h2, h3, h4, h5, Bool.false_eq_true, if_false, rereads, wantedA, if_true, h7]
 exact AV.same_refl _
def befB : List Int -> List Int -> Bool
 | [], r => !r.isEmpty
 | _ :: _, [] => false
 | a :: l, b :: r => if a = b then befB l r else decide (a < b)
theorem bef_step {l r : List Int} {i : Nat} {a b : Int} (ha : l[i]? = some a) (hb : r[i]? = some b) : befB (l.drop i) (r.drop i) = if a = b then befB (l.drop (i + 1)) (r.drop (i + 1)) else decide (a < b) := by
 have h1 : i < l.length := by
  rcases Nat.lt_or_ge i l.length with h' | h'
  ·exact h'
  ·rw [List.getElem?_eq_none h'] at ha; cases ha
 have h2 : i < r.length := by
  rcases Nat.lt_or_ge i r.length with h' | h'
  ·exact h'
  ·rw [List.getElem?_eq_none h'] at hb; cases hb
 rw [List.drop_eq_getElem_cons h1, List.drop_eq_getElem_cons h2]
 rw [List.getElem?_eq_getElem h1] at ha
 rw [List.getElem?_eq_getElem h2] at hb
 rw [Option.some.inj ha, Option.some.inj hb]
 rfl
theorem bef_end {l r : List Int} {i : Nat} (hi : i <= l.length) (hj : i <= r.length) (he : ¬ (i < l.length /\ i < r.length)) : befB (l.drop i) (r.drop i) = decide ((l.length : Int) < (r.length : Int)) := by
 by_cases h1 : i < l.length
 ·have h2 : i = r.length := by omega
  rw [h2, List.drop_length, List.drop_eq_getElem_cons (by omega)]
  show false = _
  symm
  simp
  omega
 ·have h2 : i = l.length := by omega
  rw [h2, List.drop_length]
  show (!(r.drop l.length).isEmpty) = _
  rw [Bool.eq_iff_iff]
  simp
def sp37 : List AV -> Option AV
 | [a, b] => match slV intC a, slV intC b with
  | some l, some r => some (.bool (befB l r))
  | _, _ => none
 | _ => none
theorem p37 : ∀ args v, sp37 args = some v -> v.pur = true := by
 intro args v h
 unfold sp37 at h
 split at h
 ·split at h
  ·cases h; rfl
  ·cases h
 ·cases h
attribute [local irreducible] befB
set_option maxHeartbeats 2000000 in
theorem F37 : IntrFn Tryz.prog 37 (pureFn sp37) := by
 refine pure_fn (X := dX cGA) cGA_sound p37 ?_
 intro args v h
 unfold sp37 at h
 split at h
 ·rename_i a b
  split at h
  ·rename_i l r ha hb
   have h := Option.some.inj h
   subst h
   have ol := sl_out ha
   have orr := sl_out hb
   have ll := sl_len ha
   have lr := sl_len hb
   have ml := sl_max ha
   have HA := Lib.hid ha
   have HB := Lib.hid hb
   generalize hres : befB l r = res
   have HR := Lib.hid hres
   clear hres ha hb
   refine ClR.walk (c := _) rfl Tryz.func37 rfl (by kernel_rfl) rfl isRet_fail ?_
   simp only [entryEnv, Nat.reduceAdd, emptyHp]
   repeat' (first | refine goS ?_ | refine go2 (fun hh => ?_) (fun hh => ?_) | fail)
   refine W.loopN (min l.length r.length) (fun i F => ∃ e, F = Fr.mk 37 false e .nil ⟨0, .nil⟩ [] none /\ befB (l.drop i) (r.drop i) = res /\ e.get 0 = some a /\ e.get 1 = some b /\ e.get 5 = some (.int .i64 ↑i) /\ i <= min l.length r.length) ?_ ?_
   ·refine ⟨_, rfl, HR.out, ?_, ?_, ?_, ?_⟩ <;> first | exact Z2 | simp [go_sem, *]
   rintro i F ⟨e, rfl, hbf, h0, h1, h5, hi⟩
   have HBF := Lib.hid hbf
   clear hbf
   have hi2 : i <= l.length /\ i <= r.length := by omega
   have HI := Lib.hid hi2
   clear hi hi2
   by_cases hl : i < l.length
   ·have hd : decide ((i : Int) < (l.length : Int)) = true := by simpa using hl
    by_cases hr : i < r.length
    ·have hd2 : decide ((i : Int) < (r.length : Int)) = true := by simpa using hr
     have hw := wrap_succ hl ml
     obtain ⟨x, hx⟩ := get_some hl
     obtain ⟨y, hy⟩ := get_some hr
     have hix := int_idx HA.out hx
     have hiy := int_idx HB.out hy
     have hst := bef_step hx hy
     have HST := Lib.hid hst
     have HLT := Lib.hid (show i < min l.length r.length by omega)
     clear hx hy hst hl hr
     by_cases hxy : x = y
     ·have hb1 : (x != y) = false := by simp [hxy]
      have HXY := Lib.hid hxy
      clear hxy
      repeat' (first | (apply W.drawQ (id := 4) (l1 := [0, 1, 2, 3, 4, 5, 6, 7, 8]) (l2 := []); kernel_rfl; kernel_rfl; kernel_rfl; exact Z4) | (apply W.drawQ (id := 5) (l1 := [0, 1, 2, 3, 4, 5, 6, 7, 8, 9]) (l2 := []); kernel_rfl; kernel_rfl; kernel_rfl; exact Z4) | refine go1 ?_ | refine go2 (fun hh => ?_) (fun hh => ?_) | fail)
      refine ⟨HLT.out, _, rfl, ?_, ?_, ?_, ?_, ?_⟩
      ·rw [<- HBF.out, HST.out, if_pos HXY.out]
      all_goals first | exact Z2 | (have := HLT.out; omega)
     ·have hb1 : (x != y) = true := by simp [hxy]
      have HXY := Lib.hid hxy
      clear hxy
      repeat' (first | (apply W.drawQ (id := 4) (l1 := [0, 1, 2, 3, 4, 5, 6, 7, 8]) (l2 := []); kernel_rfl; kernel_rfl; kernel_rfl; exact Z4) | (apply W.drawQ (id := 5) (l1 := [0, 1, 2, 3, 4, 5, 6, 7, 8, 9]) (l2 := []); kernel_rfl; kernel_rfl; kernel_rfl; exact Z4) | refine go1 ?_ | refine go2 (fun hh => ?_) (fun hh => ?_) | fail)
      all_goals (simp only [resV_def (X := dX cGA) Tryz.func37, Tryz.results37]; first | exact J5 | refine J6 ?_)
      rw [<- HBF.out, HST.out, if_neg HXY.out]
    ·have hd2 : decide ((i : Int) < (r.length : Int)) = false := by simpa using hr
     have HE := Lib.hid (bef_end (l := l) (r := r) HI.out.1 HI.out.2 (fun h => hr h.2))
     clear hr hl
     repeat' (first | refine goS ?_ | refine go2 (fun hh => ?_) (fun hh => ?_) | fail)
     all_goals (simp only [resV_def (X := dX cGA) Tryz.func37, Tryz.results37]; first | exact J5 | refine J6 ?_)
     rw [<- HBF.out, HE.out]
   ·have hd : decide ((i : Int) < (l.length : Int)) = false := by simpa using hl
    have HE := Lib.hid (bef_end (l := l) (r := r) HI.out.1 HI.out.2 (fun h => hl h.1))
    clear hl
    repeat' (first | refine goS ?_ | refine go2 (fun hh => ?_) (fun hh => ?_) | fail)
    all_goals (simp only [resV_def (X := dX cGA) Tryz.func37, Tryz.results37]; first | exact J5 | refine J6 ?_)
    rw [<- HBF.out, HE.out]
  ·cases h
 ·cases h
def ordAt (l : List Int) (many : Int) (i : Nat) : Bool := ((List.range i).all fun k => !(l.getD i 0 == l.getD k 0)) && inB (l.getD i 0) 0 (w64 (many - 1))
def orderB (l : List Int) (many : Int) : Bool := ((List.range l.length).all (ordAt l many)) && ((l.length : Int) == many)
end Go.AM
namespace Go.AM
open Go Go.Proofs
variable [Keep]
attribute [local irreducible] W WO WO1 WD WQ WT thenQ blockQ endR isRet retK Cl ClR
attribute [local irreducible] farS againS matchS measB
noncomputable def c4 : Itr
 | 31 => some (pureFn sp31)
 | 32 => some (pureFn sp32)
 | 33 => some (pureFn sp33)
 | 34 => some (pureFn sp34)
 | f => c25 cK f
end Go.AM
namespace Go.AM
open Go Go.Proofs
variable [Keep]
attribute [local irreducible] W WO WO1 WD WQ WT thenQ blockQ endR isRet retK Cl ClR
theorem w64_pred {n : Nat} (h : n <= 4) : w64 ((n : Int) - 1) = (n : Int) - 1 := wrap_small (by omega) (by omega)
theorem order_nat {o : List Int} {n : Nat} (hn : n <= 4) (h : orderB o n = true) : ∃ p : List Nat, o = p.map (fun k : Nat => (k : Int)) /\ IsOrd n p := by
 unfold orderB at h
 simp only [Bool.and_eq_true, beq_iff_eq] at h
 obtain ⟨h1, h2⟩ := h
 have hat : ∀ i, i < o.length -> ordAt o n i = true := fun i hi => List.all_eq_true.1 h1 i (by simpa using hi)
 have hin : ∀ i, i < o.length -> 0 <= o.getD i 0 /\ o.getD i 0 <= (n : Int) - 1 := fun i hi => by
  have := hat i hi
  unfold ordAt at this
  rw [w64_pred hn] at this
  simp only [inB, Bool.and_eq_true, decide_eq_true_eq] at this
  omega
 have hne : ∀ i k, i < o.length -> k < i -> o.getD i 0 ≠ o.getD k 0 := fun i k hi hk e => by
  have := hat i hi
  unfold ordAt at this
  simp only [Bool.and_eq_true] at this
  have h3 := List.all_eq_true.1 this.1 k (by simpa using hk)
  rw [e] at h3
  simp at h3
 have hget : ∀ i (hi : i < o.length), o.getD i 0 = o[i] := fun i hi => by simp [List.getD, hi]
 refine ⟨o.map Int.toNat, ?_, ⟨by rw [List.length_map]; omega, fun k hk => ?_, ?_⟩⟩
 ·rw [List.map_map]
  conv => lhs; rw [<- List.map_id o]
  refine List.map_congr_left fun x hx => ?_
  obtain ⟨i, hi, rfl⟩ := List.mem_iff_getElem.1 hx
  have := hin i hi
  rw [hget i hi] at this
  show o[i] = ((o[i].toNat : Nat) : Int)
  omega
 ·obtain ⟨x, hx, rfl⟩ := List.mem_map.1 hk
  obtain ⟨i, hi, rfl⟩ := List.mem_iff_getElem.1 hx
  have := hin i hi
  rw [hget i hi] at this
  omega
 ·unfold List.Nodup
  rw [List.pairwise_iff_getElem]
  intro i j hi hj hij e
  rw [List.length_map] at hi hj
  simp only [List.getElem_map] at e
  have a := hin i hi
  have b := hin j hj
  rw [hget i hi] at a
  rw [hget j hj] at b
  refine hne j i hj hij ?_
  rw [hget i hi, hget j hj]
  omega
theorem nat_order {n : Nat} (hn : n <= 4) {p : List Nat} (h : IsOrd n p) : orderB (p.map fun k : Nat => (k : Int)) n = true := by
 unfold orderB
 simp only [Bool.and_eq_true, beq_iff_eq, List.length_map]
 refine ⟨List.all_eq_true.2 fun i hi => ?_, by rw [h.len]⟩
 have hi : i < p.length := by simpa using hi
 have hg : ∀ j, j < p.length -> ∃ v, (p.map fun k : Nat => (k : Int)).getD j 0 = ((v : Nat) : Int) /\ p[j]? = some v := fun j hj => by
  obtain ⟨v, hv⟩ := get_some hj
  exact ⟨v, by simp [List.getD, hv], hv⟩
 obtain ⟨v, e1, hv⟩ := hg i hi
 have hvn := h.lt v (List.mem_of_getElem? hv)
 unfold ordAt
 rw [w64_pred hn, e1]
 simp only [Bool.and_eq_true, inB, decide_eq_true_eq]
 refine ⟨List.all_eq_true.2 fun k hk => ?_, by omega⟩
 have hk : k < i := by simpa using hk
 obtain ⟨u, e2, hu⟩ := hg k (by omega)
 rw [e2]
 have hnd := h.nd
 unfold List.Nodup at hnd
 rw [List.pairwise_iff_getElem] at hnd
 have := hnd k i (by omega) hi hk
 rw [List.getElem?_eq_getElem (by omega)] at hv hu
 have hvu : v ≠ u := fun e => this (by rw [Option.some.inj hu, Option.some.inj hv, e])
 simp
 omega
theorem bef_lex : ∀ (p q : List Nat), befB (p.map fun k : Nat => (k : Int)) (q.map fun k : Nat => (k : Int)) = lexB p q := by
 intro p
 induction p with
 | nil => intro q; cases q <;> rfl
 | cons a p ih =>
  intro q
  cases q with
  | nil => rfl
  | cons b q =>
   simp only [List.map_cons, befB, lexB, ih]
   by_cases e : a = b
   ·rw [if_pos e, if_pos (by omega)]
   ·rw [if_neg e, if_neg (by omega)]
    simp
noncomputable def cGH : Itr
 | 32 => some (pureFn sp32)
 | _ => none
theorem cGH_sound : Sound (dX cGH) := dX_sound (fun f g h => by
 unfold cGH at h
 split at h
 ·cases h; exact F32
 ·cases h)
attribute [local irreducible] againS measB orderB
theorem toNat_map (p : List Nat) : (p.map fun k : Nat => (k : Int)).map Int.toNat = p := by
 rw [List.map_map]
 conv => rhs; rw [<- List.map_id p]
 rfl
end Go.AM
namespace Go.AM
open Go Go.Proofs
variable [Keep]
attribute [local irreducible] W WO WO1 WD WQ WT thenQ blockQ endR isRet retK Cl ClR
def ext (n : Nat) : Nat -> List Nat -> List (List Nat)
 | 0, p => [p]
 | d + 1, p => (kidsTo p n).flatMap (ext n d)
theorem lev_ext (n : Nat) : ∀ (d i : Nat), lev n (i + d) = (lev n i).flatMap (ext n d) := by
 intro d
 induction d with
 | zero =>
  intro i
  show lev n i = (lev n i).flatMap fun p => [p]
  simp
 | succ d ih =>
  intro i
  rw [show i + (d + 1) = (i + 1) + d by omega, ih (i + 1), lev_succ, List.flatMap_assoc]
  rfl
theorem find_filter {α β : Type} (f : α -> Bool) (g : α -> Option β) : ∀ (l : List α), (l.filter f).findSome? g = l.findSome? fun v => if f v then g v else none := by
 intro l
 induction l with
 | nil => rfl
 | cons a l ih =>
  rw [List.filter_cons]
  cases hf : f a with
  | true =>
   simp only [if_true, List.findSome?_cons, hf]
   cases g a with
   | none => exact ih
   | some b => rfl
  | false =>
   simp only [Bool.false_eq_true, if_false, List.findSome?_cons, hf]
   exact ih
theorem ext_srch (n : Nat) (acc : List Nat -> Bool) : ∀ (d : Nat) (p : List Nat), (ext n d p).find? acc = srch n acc d p := by
 intro d
 induction d with
 | zero =>
  intro p
  simp only [ext, srch, List.find?_cons, List.find?_nil]
  cases acc p <;> rfl
 | succ d ih =>
  intro p
  simp only [ext, srch, List.find?_flatMap, kidsTo, List.findSome?_map, find_filter]
  congr 1
  funext v
  simp only [Function.comp, ih]
  cases p.contains v <;> rfl
theorem lev_srch (n : Nat) (acc : List Nat -> Bool) : (lev n n).find? acc = srch n acc n [] := by
 have := lev_ext n n 0
 rw [Nat.zero_add] at this
 rw [this, <- ext_srch]
 show ([[]].flatMap (ext n n)).find? acc = _
 simp
theorem lev_ord {n : Nat} {p : List Nat} : ∀ (i : Nat), ∀ p ∈ lev n i, p.Nodup /\ ∀ k ∈ p, k < n := by
 intro i
 induction i with
 | zero => intro p hp; simp [lev] at hp; subst hp; simp
 | succ i ih =>
  intro p hp
  rw [lev_succ] at hp
  obtain ⟨q, hq, hp⟩ := List.mem_flatMap.1 hp
  unfold kidsTo at hp
  obtain ⟨v, hv, rfl⟩ := List.mem_map.1 hp
  obtain ⟨hv1, hv2⟩ := List.mem_filter.1 hv
  obtain ⟨a, b⟩ := ih q hq
  have hm : v ∉ q := by simpa using hv2
  refine ⟨?_, fun k hk => ?_⟩
  ·rw [List.nodup_append]
   exact ⟨a, by simp, fun x hx y hy e => by simp at hy; subst hy; subst e; exact hm hx⟩
  ·rcases List.mem_append.1 hk with q' | q'
   ·exact b k q'
   ·simp at q' hv1; omega
end Go.AM
namespace Go.AM
open Go
theorem maxV_eq (x y : Int) : maxV x y = max x y := by unfold maxV; rw [Int.max_def]; split <;> split <;> omega
theorem minV_eq (x y : Int) : minV x y = min x y := by unfold minV; rw [Int.min_def]; split <;> split <;> omega
theorem interS_lo (a b : Sp) : (interS a b).lo = max a.lo b.lo := maxV_eq _ _
theorem interS_hi (a b : Sp) : (interS a b).hi = min a.hi b.hi := minV_eq _ _
theorem Sp.ext2 {a b : Sp} (h1 : a.lo = b.lo) (h2 : a.hi = b.hi) : a = b := by cases a; cases b; simp_all
theorem interS_right (a b c : Sp) : interS (interS a b) c = interS (interS a c) b := Sp.ext2 (by simp only [interS_lo]; omega) (by simp only [interS_hi]; omega)
theorem emp_inter {a b : Sp} (h : empS a = true) : empS (interS a b) = true := by
 simp only [empS, decide_eq_true_eq, interS_lo, interS_hi] at *
 omega
theorem getD_set_same {l : List Sp} {n : Nat} {x : Sp} (h : n < l.length) : (l.set n x).getD n ⟨0, 0⟩ = x := by simp [List.getD, h]
theorem getD_set_ne {l : List Sp} {n j : Nat} {x : Sp} (h : n ≠ j) : (l.set n x).getD j ⟨0, 0⟩ = l.getD j ⟨0, 0⟩ := by simp [List.getD, List.getElem?_set, h]
def allS (b : Int) : List Lim -> Sp -> Sp
 | [], s => s
 | m :: r, s => if m.b == b then allS b r (interS s m.sp) else allS b r s
theorem allS_emp (b : Int) : ∀ (l : List Lim) (s : Sp), empS s = true -> empS (allS b l s) = true := by
 intro l
 induction l with
 | nil => intro s h; exact h
 | cons m r ih =>
  intro s h
  simp only [allS]
  split
  ·exact ih _ (emp_inter h)
  ·exact ih _ h
theorem allS_inter (b : Int) : ∀ (l : List Lim) (s t : Sp), interS (allS b l s) t = allS b l (interS s t) := by
 intro l
 induction l with
 | nil => intro s t; rfl
 | cons m r ih =>
  intro s t
  simp only [allS]
  split
  ·rw [ih, interS_right]
  ·rw [ih]
theorem limS_all (b : Int) : ∀ (l : List Lim) (s : Sp), empS s = false -> (∀ t, limS b l s = some t -> t = allS b l s /\ empS t = false) /\ (limS b l s = none -> empS (allS b l s) = true) := by
 intro l
 induction l with
 | nil => intro s h; simp [limS, allS, h]
 | cons m r ih =>
  intro s h
  simp only [limS, allS]
  split
  ·cases e : empS (interS s m.sp) with
   | true =>
    refine ⟨fun t h' => by simp at h', fun _ => allS_emp _ _ _ e⟩
   | false =>
    simp only [Bool.false_eq_true, if_false]
    exact ih _ e
  ·exact ih _ h
def onS (ax : Ax) : Nat -> Sp
 | 0 => allS 0 ax.limits ax.chuck
 | k + 1 => allS ((k + 1 : Nat) : Int) ax.limits (nxtS ax (onS ax k))
theorem range_snoc (f : Nat -> Sp) (k : Nat) : (List.range (k + 1)).map f = (List.range k).map f ++ [f k] := by simp [List.range_succ]
theorem fwd_on (ax : Ax) (hc : empS ax.chuck = false) (hn : ∀ k, k < 12 -> empS (onS ax k) = false -> empS (nxtS ax (onS ax k)) = false) : ∀ k, k <= 13 ->
  (∀ out, fwdS ax k = some out -> out = (List.range k).map (onS ax) /\ ∀ j, j < k -> empS (onS ax j) = false) /\ (fwdS ax k = none -> ∃ j, j < k /\ empS (onS ax j) = true) := by
 intro k
 induction k with
 | zero => intro _; simp [fwdS]
 | succ k ih =>
  intro hk
  obtain ⟨h1, h2⟩ := ih (by omega)
  simp only [fwdS]
  cases ho : fwdS ax k with
  | none =>
   refine ⟨fun out h => by simp at h, fun _ => ?_⟩
   obtain ⟨j, hj, he⟩ := h2 ho
   exact ⟨j, by omega, he⟩
  | some out =>
   obtain ⟨e1, e2⟩ := h1 out ho
   have hst : empS (startS ax out k) = false /\ allS k ax.limits (startS ax out k) = onS ax k := by
    cases k with
    | zero => exact ⟨hc, rfl⟩
    | succ k =>
     have : startS ax out (k + 1) = nxtS ax (onS ax k) := by
      unfold startS
      rw [if_neg (by omega), e1]
      simp [List.getD]
     rw [this]
     exact ⟨hn k (by omega) (e2 k (by omega)), rfl⟩
   obtain ⟨l1, l2⟩ := limS_all k ax.limits (startS ax out k) hst.1
   simp only
   cases hl : limS k ax.limits (startS ax out k) with
   | none =>
    refine ⟨fun out h => by simp at h, fun _ => ⟨k, by omega, ?_⟩⟩
    rw [<- hst.2]
    exact l2 hl
   | some s =>
    obtain ⟨g1, g2⟩ := l1 s hl
    refine ⟨fun out' h => ?_, fun h => by simp at h⟩
    simp only [Option.some.injEq] at h
    subst h
    rw [hst.2] at g1
    subst g1
    refine ⟨by rw [range_snoc, <- e1], fun j hj => ?_⟩
    rcases Nat.lt_or_ge j k with h | h
    ·exact e2 j h
    ·have : j = k := by omega
     subst this
     exact g2
def backS (ax : Ax) : Nat -> List Sp -> List Sp
 | 0, out => out
 | n + 1, out => backS ax n (out.set n (interS (out.getD n ⟨0, 0⟩) (prvS ax (out.getD (n + 1) ⟨0, 0⟩))))
theorem back_len (ax : Ax) : ∀ n (out : List Sp), (backS ax n out).length = out.length := by
 intro n
 induction n with
 | zero => intro out; rfl
 | succ n ih => intro out; simp [backS, ih]
theorem back_keep (ax : Ax) : ∀ n (out : List Sp) (j : Nat), n <= j -> (backS ax n out).getD j ⟨0, 0⟩ = out.getD j ⟨0, 0⟩ := by
 intro n
 induction n with
 | zero => intro out j _; rfl
 | succ n ih =>
  intro out j h
  simp only [backS]
  rw [ih _ j (by omega), getD_set_ne (by omega)]
theorem back_emp (ax : Ax) : ∀ n (out : List Sp) (j : Nat), n <= out.length -> empS (out.getD j ⟨0, 0⟩) = true -> empS ((backS ax n out).getD j ⟨0, 0⟩) = true := by
 intro n
 induction n with
 | zero => intro out j _ h; exact h
 | succ n ih =>
  intro out j hl h
  simp only [backS]
  refine ih _ j (by simp; omega) ?_
  by_cases hj : n = j
  ·subst hj
   have : (out.set n (interS (out.getD n ⟨0, 0⟩) (prvS ax (out.getD (n + 1) ⟨0, 0⟩)))).getD n ⟨0, 0⟩ = interS (out.getD n ⟨0, 0⟩) (prvS ax (out.getD (n + 1) ⟨0, 0⟩)) := getD_set_same (by omega)
   rw [this]
   exact emp_inter h
  ·have : (out.set n (interS (out.getD n ⟨0, 0⟩) (prvS ax (out.getD (n + 1) ⟨0, 0⟩)))).getD j ⟨0, 0⟩ = out.getD j ⟨0, 0⟩ := getD_set_ne hj
   rw [this]
   exact h
theorem bwd_back (ax : Ax) : ∀ n (out : List Sp), n < out.length -> (∀ t, bwdS ax n out = some t -> t = backS ax n out /\ ∀ j, j < n -> empS (t.getD j ⟨0, 0⟩) = false) /\ (bwdS ax n out = none -> ∃ j, j < n /\ empS ((backS ax n out).getD j ⟨0, 0⟩) = true) := by
 intro n
 induction n with
 | zero => intro out _; simp [bwdS, backS]
 | succ n ih =>
  intro out hl
  simp only [bwdS, backS]
  have hset : (out.set n (interS (out.getD n ⟨0, 0⟩) (prvS ax (out.getD (n + 1) ⟨0, 0⟩)))).getD n ⟨0, 0⟩ = interS (out.getD n ⟨0, 0⟩) (prvS ax (out.getD (n + 1) ⟨0, 0⟩)) := getD_set_same (by omega)
  cases e : empS (interS (out.getD n ⟨0, 0⟩) (prvS ax (out.getD (n + 1) ⟨0, 0⟩))) with
  | true =>
   refine ⟨fun t h => by simp at h, fun _ => ⟨n, by omega, ?_⟩⟩
   rw [back_keep _ _ _ _ (Nat.le_refl _), hset]
   exact e
  | false =>
   simp only [Bool.false_eq_true, if_false]
   obtain ⟨h1, h2⟩ := ih (out.set n (interS (out.getD n ⟨0, 0⟩) (prvS ax (out.getD (n + 1) ⟨0, 0⟩)))) (by simp; omega)
   refine ⟨fun t h => ?_, fun h => ?_⟩
   ·obtain ⟨g1, g2⟩ := h1 t h
    refine ⟨g1, fun j hj => ?_⟩
    rcases Nat.lt_or_ge j n with h' | h'
    ·exact g2 j h'
    ·have : j = n := by omega
     subst this
     rw [g1, back_keep _ _ _ _ (Nat.le_refl _), hset]
     exact e
   ·obtain ⟨j, hj, he⟩ := h2 h
    exact ⟨j, by omega, he⟩
def refS (ax : Ax) : Option (List Sp) := if (backS ax 12 ((List.range 13).map (onS ax))).any empS then none else some (backS ax 12 ((List.range 13).map (onS ax)))
theorem any_getD {l : List Sp} {j : Nat} (hj : j < l.length) (h : empS (l.getD j ⟨0, 0⟩) = true) : l.any empS = true :=
 List.any_eq_true.2 ⟨l[j], List.getElem_mem hj, by simpa [List.getD, hj] using h⟩
theorem bounds_ref [Keep] (ax : Ax) (hc : empS ax.chuck = false) (hn : ∀ k, k < 12 -> empS (onS ax k) = false -> empS (nxtS ax (onS ax k)) = false) : boundsS ax = refS ax := by
 obtain ⟨h1, h2⟩ := fwd_on ax hc hn 13 (Nat.le_refl _)
 have hlen : (backS ax 12 ((List.range 13).map (onS ax))).length = 13 := by rw [back_len]; simp
 rw [boundsS_def]
 unfold refS
 cases hf : fwdS ax 13 with
 | none =>
  obtain ⟨j, hj, he⟩ := h2 hf
  have : ((List.range 13).map (onS ax)).getD j ⟨0, 0⟩ = onS ax j := by simp [List.getD, hj]
  have := back_emp ax 12 ((List.range 13).map (onS ax)) j (by simp) (by rw [this]; exact he)
  rw [any_getD (by omega) this]
  rfl
 | some out =>
  obtain ⟨rfl, g2⟩ := h1 out hf
  simp only
  obtain ⟨b1, b2⟩ := bwd_back ax 12 ((List.range 13).map (onS ax)) (by simp)
  cases hb : bwdS ax 12 ((List.range 13).map (onS ax)) with
  | none =>
   obtain ⟨j, hj, he⟩ := b2 hb
   rw [any_getD (by omega) he]
   rfl
  | some t =>
   obtain ⟨e1, e2⟩ := b1 t hb
   have : (backS ax 12 ((List.range 13).map (onS ax))).any empS = false := by
    rw [List.any_eq_false]
    intro x hx
    obtain ⟨j, hj⟩ := List.mem_iff_getElem?.1 hx
    have hjl : j < 13 := by
     rcases Nat.lt_or_ge j 13 with h | h
     ·exact h
     ·rw [List.getElem?_eq_none (by omega)] at hj; cases hj
    have hg : (backS ax 12 ((List.range 13).map (onS ax))).getD j ⟨0, 0⟩ = x := by simp [List.getD, hj]
    rcases Nat.lt_or_ge j 12 with h | h
    ·have := e2 j h
     rw [e1, hg] at this
     simp [this]
    ·have : j = 12 := by omega
     subst this
     rw [back_keep _ _ _ _ (Nat.le_refl _)] at hg
     have h12 : ((List.range 13).map (onS ax)).getD 12 ⟨0, 0⟩ = onS ax 12 := by simp [List.getD]
     rw [h12] at hg
     rw [<- hg, g2 12 (by omega)]
     simp
   rw [this, e1]
   rfl
end Go.AM
