/-
  The reference's orders and search.
-/
import Derived.Test.YtlhcjccaimmhgaaGreatDoorFnM
import Derived.Test.YtlhcjccaimmhgaaGreatDoorFnO
import Derived.Test.YtlhcjccaimmhgaaGreatDoorShared
set_option linter.unusedSectionVars false
set_option linter.unusedVariables false
set_option linter.unusedSimpArgs false
set_option maxRecDepth 100000
namespace Go.AM
open Go Go.Proofs
variable [Keep]
attribute [local irreducible] W WO WO1 WD WQ WT thenQ blockQ endR isRet retK Cl ClR
attribute [local irreducible] roundQ RdR clR
theorem Blt.ext {h h' : Heap} {v : AV} {sz : Nat} {l : List AV} (b : Blt h v sz l) (k : HExt h h') : Blt h' v sz l := by
  rcases b with q | ⟨id, h1, h2, h3, h4⟩
  · exact .inl q
  · exact .inr ⟨id, h1, (k.2 id h3).trans h2, Nat.lt_of_lt_of_le h3 k.1, h4⟩
theorem BltN.stay {b : Nat} {h h' : Heap} {v : AV} {sz : Nat} {l : List AV} (q : BltN b h v sz l) (k : h.next ≤ h'.next ∧ ∀ id, id < h.next → h'.get id = h.get id) : Blt h' v sz l := q.blt.ext k
section
variable {X : Ctx} {ops : Array Oper} {K P : AV → Fr → Prop} {F : Fr} {d : Option Tmp} {T : TypeId} {p : String} {af : Array Edge}
theorem WO1.appendC {args : Array Operand} {at_ : Array TypeId} {t u e e' : TypeId} {tl : List TypeId} {sz : Nat} {y : AV} {l : List AV} (hargs : F.opvs args.toList = some [.nilslice, y]) (ht : at_.toList = t :: u :: tl) (hu : X.P.underlying u = some (.slice e'))
    (hel : elemT X.P t = some e) (hs : szT X.P e = sz) (hrow : rowable X.P e = true) (hb : Blt F.hp y sz l) (hsz : ∀ v ∈ l, v.cells.length = sz) (hlen : l.length ≤ most)
    (h : ∀ v' h', BltN F.hp.next h' v' sz l → outV (some v') = some v' → (F.hp.next ≤ h'.next ∧ ∀ id, id < F.hp.next → h'.get id = F.hp.get id) → K v' (({ F with hp := h' } : Fr).put d v')) : WO1 X ops ⟨d, .call ⟨.builtin .append, args, at_⟩, T, p, af, none⟩ F K P := by
  subst hs
  have hy := hb.elems
  have h1 : (l.all fun v => v.cells.length == szT X.P e) = true := List.all_eq_true.2 fun v hv => by simpa using hsz v hv
  by_cases hl : l = []
  · subst hl
    refine U5 (v := .nilslice) (F' := F) rfl (fun cl rd => ?_) ?_
    · simp only [efV, Fr.callOp, Fr.builtinE, Fr.appendE, ht, hargs, hu]
      have e1 : appendV X.P F t .nilslice [] = some (.nilslice, F) := by simp [appendV, hel, hrow]
      cases y <;> first | (simp only [hy, e1, okO]; done) | simp [Heap.elems] at hy
    · exact h .nilslice F.hp BltN.nil rfl ⟨Nat.le_refl _, fun _ _ => rfl⟩
  · have h2 : ¬ l.length = 0 := by simpa using hl
    have e1 : appendV X.P F t .nilslice l = some (.row F.hp.next 0 l.length, { F with hp := F.hp.new (.rw (szT X.P e) l) }) := by
      simp [appendV, hel, h1, hrow, hlen, h2, hl]
    refine U5 (v := .row F.hp.next 0 l.length) (F' := { F with hp := F.hp.new (.rw (szT X.P e) l) }) rfl (fun cl rd => ?_) (h _ _ (.inr ⟨F.hp.next, rfl, by rw [Heap.get_new, if_pos rfl], Nat.le_refl _, Nat.lt_succ_self _, hl⟩) rfl ⟨Nat.le_succ _, fun id hi => by rw [Heap.get_new, if_neg (by omega)]⟩)
    simp only [efV, Fr.callOp, Fr.builtinE, Fr.appendE, ht, hargs, hu]
    cases y <;> first | (simp only [hy, e1, okO]; done) | simp [Heap.elems] at hy
theorem WO1.appendW {args : Array Operand} {at_ : Array TypeId} {t u e e' : TypeId} {tl : List TypeId} {sz : Nat} {x y : AV} {new l : List AV} (hb : Blt F.hp x sz l) (hargs : F.opvs args.toList = some [x, y]) (ht : at_.toList = t :: u :: tl) (hu : X.P.underlying u = some (.slice e'))
    (hel : elemT X.P t = some e) (hs : szT X.P e = sz) (hrow : rowable X.P e = true) (hy : F.hp.elems y = some new) (hsz : ∀ v ∈ new, v.cells.length = sz) (hlen : l.length + new.length ≤ most) (hne : new ≠ [])
    (h : ∀ v' h', Blt h' v' sz (l ++ new) → outV (some v') = some v' → Keeps F.hp h' x → v' = .row F.hp.next 0 (l ++ new).length → K v' (({ F with hp := h' } : Fr).put d v')) : WO1 X ops ⟨d, .call ⟨.builtin .append, args, at_⟩, T, p, af, none⟩ F K P := by
  subst hs
  obtain ⟨v', h', q1, q2, q3, q4⟩ := append_blt hel hrow hsz hb hlen hne
  refine U5 (v := v') (F' := { F with hp := h' }) rfl (fun cl rd => ?_) (h v' h' q2 q2.out q3 q4)
  simp only [efV, Fr.callOp, Fr.builtinE, Fr.appendE, ht, hargs, hu]
  cases y <;> first | (simp only [hy, q1, okO]; done) | simp [Heap.elems] at hy
end
def kidsTo (p : List Nat) (m : Nat) : List (List Nat) := ((List.range m).filter fun v => !p.contains v).map fun v => p ++ [v]
def lev (n : Nat) : Nat → List (List Nat)
  | 0 => [[]]
  | i + 1 => (lev n i).flatMap fun p => kidsTo p n
theorem kids_no {p : List Nat} {m : Nat} (h : p.contains m = true) : kidsTo p (m + 1) = kidsTo p m := by
  have h' : m ∈ p := by simpa using h
  simp only [kidsTo, List.range_succ, List.filter_append, List.map_append]
  simp [h']
theorem kids_yes {p : List Nat} {m : Nat} (h : p.contains m = false) : kidsTo p (m + 1) = kidsTo p m ++ [p ++ [m]] := by
  have h' : m ∉ p := by simpa using h
  simp only [kidsTo, List.range_succ, List.filter_append, List.map_append]
  simp [h']
theorem lev_len {n : Nat} : ∀ (i : Nat), ∀ p ∈ lev n i, p.length = i := by
  intro i
  induction i with
  | zero => intro p hp; simp [lev] at hp; simp [hp]
  | succ i ih =>
    intro p hp
    simp only [lev, List.mem_flatMap, kidsTo, List.mem_map] at hp
    obtain ⟨q, hq, v, _, rfl⟩ := hp
    simp [ih q hq]
theorem take_flat {α β : Type} (f : α → List β) {l : List α} {k : Nat} {p : α} (h : l[k]? = some p) : (l.take (k + 1)).flatMap f = (l.take k).flatMap f ++ f p := by
  rw [take_next h, List.flatMap_append]
  simp
theorem lev_succ (n i : Nat) : lev n (i + 1) = (lev n i).flatMap fun p => kidsTo p n := rfl
theorem kids_zero (p : List Nat) : kidsTo p 0 = [] := rfl
theorem lev_zero (n : Nat) : lev n 0 = [[]] := rfl
theorem cont_take {p : List Nat} {j v m : Nat} (h : p[j]? = some v) : (p.take (j + 1)).contains m = ((p.take j).contains m || ((v : Int) == (m : Int))) := by
  rw [take_next h, Bool.eq_iff_iff]
  simp only [List.contains_iff_mem, List.mem_append, List.mem_singleton, Bool.or_eq_true, beq_iff_eq]
  constructor
  · rintro (q | q)
    · exact .inl q
    · exact .inr (by omega)
  · rintro (q | q)
    · exact .inl q
    · exact .inr (by omega)
def Elems (h : Heap) (es : List AV) (ps : List (List Nat)) : Prop := es.length = ps.length ∧ ∀ (i : Nat) (r : AV) (p : List Nat), es[i]? = some r → ps[i]? = some p → Blt h r 1 (natsV p)
def RowsOf (es : List AV) : Prop := ∀ r ∈ es, ∃ id n, r = .row id 0 n
theorem Elems.ext {h h' : Heap} {es : List AV} {ps : List (List Nat)} (q : Elems h es ps) (k : HExt h h') : Elems h' es ps := ⟨q.1, fun i r p h1 h2 => (q.2 i r p h1 h2).ext k⟩
theorem Elems.add {h : Heap} {es : List AV} {ps : List (List Nat)} {r : AV} {p : List Nat} (q : Elems h es ps) (b : Blt h r 1 (natsV p)) : Elems h (es ++ [r]) (ps ++ [p]) := by
  refine ⟨by simp [q.1], fun i r' p' h1 h2 => ?_⟩
  have hl := q.1
  rcases Nat.lt_trichotomy i es.length with c | c | c
  · rw [List.getElem?_append_left c] at h1
    rw [List.getElem?_append_left (by omega)] at h2
    exact q.2 i r' p' h1 h2
  · subst c
    rw [List.getElem?_append_right (Nat.le_refl _)] at h1
    rw [hl, List.getElem?_append_right (Nat.le_refl _)] at h2
    simp at h1 h2
    subst h1 h2
    exact b
  · rw [List.getElem?_eq_none (by simp; omega)] at h1
    cases h1
theorem not_one {h : Heap} {w r : AV} {es : List AV} {p : List Nat} (bw : Blt h w 1 es) (br : Blt h r 1 (natsV p)) (hr : RowsOf es) {id o n : Nat} (e : w = .row id o n) (id' o' n' : Nat) (e' : r = .row id' o' n') : id ≠ id' := by
  intro hid
  rcases bw with ⟨q, _⟩ | ⟨i, q1, q2, _, q3⟩
  · rw [q] at e; cases e
  · rcases br with ⟨s, _⟩ | ⟨j, s1, s2, _, s3⟩
    · rw [s] at e'; cases e'
    · rw [q1] at e
      rw [s1] at e'
      cases e
      cases e'
      subst hid
      rw [q2] at s2
      have hes : es = natsV p := by simpa using s2
      cases p with
      | nil => rw [hes] at q3; exact q3 rfl
      | cons a p =>
        have := hr (.int .i64 (a : Int)) (by rw [hes]; simp [natsV])
        obtain ⟨_, _, e⟩ := this
        cases e
theorem Blt.kept {h h' : Heap} {w r : AV} {es : List AV} {p : List Nat} (br : Blt h r 1 (natsV p)) (bw : Blt h w 1 es) (hr : RowsOf es) (k : Keeps h h' w) : Blt h' r 1 (natsV p) := by
  rcases br with q | ⟨j, s1, s2, s3, s4⟩
  · exact .inl q
  · refine .inr ⟨j, s1, ?_, Nat.lt_of_lt_of_le s3 k.1, s4⟩
    rw [k.2 j s3 fun o n e => not_one bw (.inr ⟨j, s1, s2, s3, s4⟩) hr e j 0 _ s1 rfl]
    exact s2
theorem Elems.kept {h h' : Heap} {w : AV} {es es0 : List AV} {ps : List (List Nat)} (q : Elems h es ps) (bw : Blt h w 1 es0) (hr : RowsOf es0) (k : Keeps h h' w) : Elems h' es ps := ⟨q.1, fun i r p h1 h2 => (q.2 i r p h1 h2).kept bw hr k⟩
theorem kids_small {n : Nat} (p : List Nat) : (kidsTo p n).length ≤ n := by
  unfold kidsTo
  rw [List.length_map]
  have := List.length_filter_le (fun v => !p.contains v) (List.range n)
  rw [List.length_range] at this
  exact this
theorem flat_small {n : Nat} (hn : n ≤ 4) : ∀ (l : List (List Nat)), (l.flatMap fun p => kidsTo p n).length ≤ l.length * 4 := by
  intro l
  induction l with
  | nil => simp
  | cons a l ih =>
    have := kids_small (n := n) a
    simp only [List.flatMap_cons, List.length_append, List.length_cons]
    omega
theorem lev_ne {n : Nat} (h1 : 1 ≤ n) (h4 : n ≤ 4) : lev n n ≠ [] := by
  have : n = 1 ∨ n = 2 ∨ n = 3 ∨ n = 4 := by omega
  rcases this with rfl | rfl | rfl | rfl <;> decide
theorem nest_at {h : Heap} {u r : AV} {es : List AV} {k : Nat} (q : u = .vslice es ∨ Blt h u 1 es) (hr : es[k]? = some r) (hc : r.cells = [r]) : ∃ ad, indexAddrV Tryz.prog h 194 u (.int .i64 ↑k) = some ad ∧ ∀ (f : FuncId) (rnd : Bool) (e : Mp AV) (lm : Mp (Nat × List AV)) (df : List (AV × List AV)) (up : Option (AV × Bool)), (Fr.mk f rnd e lm h df up).mem ad = some ([r], 0) := by
  have hk : k < es.length := by
    rcases Nat.lt_or_ge k es.length with h' | h'
    · exact h'
    · rw [List.getElem?_eq_none h'] at hr; cases hr
  rcases q with rfl | b
  · refine ⟨.vptr [r], ?_, fun f rnd e lm df up => rfl⟩
    have : idxV (.int .i64 (k : Int)) es.length = some k := by simp [idxV, hk]
    simp only [indexAddrV, Tryz.underlying194, ty_lay39, this, hr, hc, List.length_cons, List.length_nil, Nat.zero_add, if_true]
  · obtain ⟨id, e1, e2⟩ := b.idx (P := Tryz.prog) (t := 194) (e := 39) (ag := false) Tryz.underlying194 ty_lay39 hk
    refine ⟨_, e1, fun f rnd e lm df up => ?_⟩
    rw [mem_eptr, e2]
    simp [hr, hc]
def ordsR (h : Heap) (n : Nat) (r : COut) : Prop := ∃ es h', r = .ret (.vslice es) h' none ∧ HExt h h' ∧ Elems h' es (lev n n)
theorem ordsR_fail {h : Heap} {n : Nat} : ¬ ordsR h n .fail := by rintro ⟨_, _, e, _⟩; cases e
theorem ordsR_ret {h h' : Heap} {n : Nat} {es : List AV} (k : HExt h h') (q : Elems h' es (lev n n)) : ordsR h n (.ret (.vslice es) h' none) := ⟨es, h', rfl, k, q⟩
end Go.AM
set_option maxRecDepth 100000
namespace Go.AM
open Go Go.Proofs
variable [Keep]
attribute [local irreducible] W WO WO1 WD WQ WT thenQ blockQ endR isRet retK Cl ClR
attribute [local irreducible] roundQ RdR clR ordsR lev kidsTo
theorem lev_small {n : Nat} (hn : n ≤ 4) : ∀ i, i ≤ 4 → (lev n i).length ≤ 4 ^ i := by
  intro i
  induction i with
  | zero => intro _; rw [lev_zero]; simp
  | succ i ih =>
    intro hi
    rw [lev_succ]
    have h1 := ih (by omega)
    have h3 := flat_small hn (lev n i)
    rw [Nat.pow_succ]
    omega
theorem nat_at' {k : Nat} {o : List Nat} {v : Nat} (hp : o[k]? = some v) : (natsV o)[k]? = some (.int .i64 ↑v) := by simp [natsV, hp]
set_option maxHeartbeats 8000000 in
theorem C129 (c : FuncId → Option (List AV → Heap → Option (AV × Heap))) (hc : c 129 = none) (n : Nat) (hn1 : 1 ≤ n) (hn : n ≤ 4) (h : Heap) : ClR (dX c) 129 [.int .i64 ↑n] h (ordsR h n) := by
  refine ClR.walk (c := _) hc Tryz.func129 rfl (by kernel_rfl) rfl ordsR_fail ?_
  simp only [entryEnv, Nat.reduceAdd]
  have HN1 := Lib.hid hn1
  have HN := Lib.hid hn
  clear hn1 hn
  repeat' (first | refine Y1 ?_ | refine U7 ?_ | refine U8 ?_ | refine U9 ?_ | refine Y2 ?_ | ((first | refine Y3 ?_ | refine Y8 ?_); simp only [tN, bN, eN, true_and]) | (apply U4; exact Z1; exact rfl; simp only [pM, pN, rR, rP]) | (refine J3 rfl rfl ?_ ?_; exact Z2) | (refine J4 rfl rfl ?_ ?_; exact Z2; simp only [pM, pN, rR, rP]) | (apply U3; exact rfl; exact rfl; exact Z1; refine ⟨fun hh => ?_, fun hh => ?_⟩ <;> try simp only [Bool.not_true, Bool.not_false, pM, pN] at hh ⊢) | (apply U5; exact rfl; exact Z3; simp only [pM, pN, rR, rP]) | (simp only [tP, bP, eP, true_and]) | (refine Y7 ?_; simp only [tR, bR, eR, true_and]) | (refine Y9 ?_; simp only [tX, bS, bO, Nat.reduceBEq, tN, bN]) | (refine Y4 ?_ ?_; exact Z2) | (refine Y5 ?_ ?_; exact Z2) | (apply Y6; exact Z1; refine ⟨fun hh => ?_, fun hh => ?_⟩))
  refine W.loopN n (fun i F => ∃ e hp u es, F = Fr.mk 129 false e .nil hp [] none ∧ HExt h hp ∧ (u = .vslice es ∨ BltN h.next hp u 1 es) ∧ Elems hp es (lev n i) ∧ (1 ≤ i → RowsOf es) ∧ e.get 0 = some (.int .i64 ↑n) ∧ e.get 3 = some u ∧ e.get 4 = some (.int .i64 ↑i) ∧ i ≤ n) ?_ ?_
  · refine ⟨_, h, _, [.nilslice], rfl, HExt.refl h, .inl rfl, ?_, fun h => absurd h (by omega), ?_, ?_, ?_, by omega⟩
    · rw [lev_zero]
      refine ⟨rfl, fun i r p h1 h2 => ?_⟩
      cases i with
      | zero => simp at h1 h2; subst h1 h2; exact Blt.nil
      | succ i => simp at h1
    all_goals first | exact Z2 | simp [go_sem, *]
  rintro i F ⟨e, hb, u, es, rfl, hx, hu, hel, hro, h0, h3, h4, hi⟩
  have HX := Lib.hid hx
  have HU := Lib.hid hu
  have HEL := Lib.hid hel
  have HRO := Lib.hid hro
  clear hx hu hel hro
  by_cases hlt : i < n
  · have hd : decide ((i : Int) < (n : Int)) = true := by simpa using hlt
    have hw := wrap_succ (m := n) hlt (by have := HN.out; unfold maxL; omega)
    have hes : es.length ≤ 256 := by
      have h1 := HEL.out.1
      have h2 := lev_small HN.out i (by have := HN.out; omega)
      have h3 : 4 ^ i ≤ 4 ^ 4 := Nat.pow_le_pow_right (by omega) (by have := HN.out; omega)
      omega
    have HES := Lib.hid hes
    clear hes
    repeat' (first | refine Y1 ?_ | refine U7 ?_ | refine U8 ?_ | refine U9 ?_ | refine Y2 ?_ | ((first | refine Y3 ?_ | refine Y8 ?_); simp only [tN, bN, eN, true_and]) | (apply U4; exact Z1; exact rfl; simp only [pM, pN, rR, rP]) | (refine J3 rfl rfl ?_ ?_; exact Z2) | (refine J4 rfl rfl ?_ ?_; exact Z2; simp only [pM, pN, rR, rP]) | (apply U3; exact rfl; exact rfl; exact Z1; refine ⟨fun hh => ?_, fun hh => ?_⟩ <;> try simp only [Bool.not_true, Bool.not_false, pM, pN] at hh ⊢) | (apply U5; exact rfl; exact Z3; simp only [pM, pN, rR, rP]) | (simp only [tP, bP, eP, true_and]) | (refine Y7 ?_; simp only [tR, bR, eR, true_and]) | (refine Y9 ?_; simp only [tX, bS, bO, Nat.reduceBEq, tN, bN]) | (refine Y4 ?_ ?_; exact Z2) | (refine Y5 ?_ ?_; exact Z2) | (apply Y6; exact Z1; refine ⟨fun hh => ?_, fun hh => ?_⟩))
    refine W.loopN es.length (fun k F => ∃ e hq w es', F = Fr.mk 129 false e .nil hq [] none ∧ HExt hb hq ∧ BltN hb.next hq w 1 es' ∧ Elems hq es' (((lev n i).take k).flatMap fun p => kidsTo p n) ∧ RowsOf es' ∧ e.get 0 = some (.int .i64 ↑n) ∧ e.get 3 = some u ∧ e.get 4 = some (.int .i64 ↑i) ∧ e.get 5 = some w ∧ e.get 6 = some (.int .i64 ↑k) ∧ k ≤ es.length) ?_ ?_
    · refine ⟨_, hb, .nilslice, [], rfl, HExt.refl hb, BltN.nil, ⟨by simp, fun i r p h1 => by simp at h1⟩, fun r hr => by simp at hr, ?_, ?_, ?_, ?_, ?_, by omega⟩ <;> first | exact Z2 | simp [go_sem, *]
    clear h0 h3 h4 hd
    rintro k F ⟨e, hq, w, es', rfl, hx2, hbw, hel2, hro2, h0, h3, h4, h5, h6, hk⟩
    have HX2 := Lib.hid hx2
    have HBW := Lib.hid hbw
    have HEL2 := Lib.hid hel2
    have HRO2 := Lib.hid hro2
    clear hx2 hbw hel2 hro2
    have lu : lenS u = some es.length := by
      rcases HU.out with rfl | q
      · rfl
      · exact q.blt.len
    have ou : outV (some u) = some u := by
      rcases HU.out with rfl | q
      · rfl
      · exact q.blt.out
    by_cases hkl : k < es.length
    · have hd : decide ((k : Int) < (es.length : Int)) = true := by simpa using hkl
      have hw2 := wrap_succ (m := es.length) hkl (by have := HES.out; unfold maxL; omega)
      obtain ⟨r, hr⟩ := get_some hkl
      obtain ⟨p, hp⟩ := get_some (show k < (lev n i).length by rw [← HEL.out.1]; exact hkl)
      have hpl := lev_len i p (List.mem_of_getElem? hp)
      have HP := Lib.hid hp
      have HRR := Lib.hid hr
      have HPL := Lib.hid hpl
      clear hr hp hpl
      repeat' (first | refine Y1 ?_ | refine U7 ?_ | refine U8 ?_ | refine U9 ?_ | refine Y2 ?_ | ((first | refine Y3 ?_ | refine Y8 ?_); simp only [tN, bN, eN, true_and]) | (apply U4; exact Z1; exact rfl; simp only [pM, pN, rR, rP]) | (refine J3 rfl rfl ?_ ?_; exact Z2) | (refine J4 rfl rfl ?_ ?_; exact Z2; simp only [pM, pN, rR, rP]) | (apply U3; exact rfl; exact rfl; exact Z1; refine ⟨fun hh => ?_, fun hh => ?_⟩ <;> try simp only [Bool.not_true, Bool.not_false, pM, pN] at hh ⊢) | (apply U5; exact rfl; exact Z3; simp only [pM, pN, rR, rP]) | (simp only [tP, bP, eP, true_and]) | (refine Y7 ?_; simp only [tR, bR, eR, true_and]) | (refine Y9 ?_; simp only [tX, bS, bO, Nat.reduceBEq, tN, bN]) | (refine Y4 ?_ ?_; exact Z2) | (refine Y5 ?_ ?_; exact Z2) | (apply Y6; exact Z1; refine ⟨fun hh => ?_, fun hh => ?_⟩))
      refine W.loopN n (fun m F => ∃ e hr w es'', F = Fr.mk 129 false e .nil hr [] none ∧ HExt hb hr ∧ BltN hb.next hr w 1 es'' ∧ Elems hr es'' ((((lev n i).take k).flatMap fun p => kidsTo p n) ++ kidsTo p m) ∧ RowsOf es'' ∧ e.get 0 = some (.int .i64 ↑n) ∧ e.get 3 = some u ∧ e.get 4 = some (.int .i64 ↑i) ∧ e.get 5 = some w ∧ e.get 6 = some (.int .i64 ↑k) ∧ e.get 7 = some (.int .i64 ↑m) ∧ m ≤ n) ?_ ?_
      · refine ⟨_, hq, w, es', rfl, HX2.out, HBW.out, ?_, HRO2.out, ?_, ?_, ?_, ?_, ?_, ?_, by omega⟩
        · rw [kids_zero, List.append_nil]; exact HEL2.out
        all_goals first | exact Z2 | simp [go_sem, *]
      clear h0 h3 h4 h5 h6 hd HX2 HBW HEL2 HRO2
      rintro m F ⟨e, hr, w, es'', rfl, hx3, hbw, hel3, hro3, h0, h3, h4, h5, h6, h7, hm⟩
      have HX3 := Lib.hid hx3
      have HBW := Lib.hid hbw
      have HEL3 := Lib.hid hel3
      have HRO3 := Lib.hid hro3
      clear hx3 hbw hel3 hro3
      by_cases hmn : m < n
      · have hd : decide ((m : Int) < (n : Int)) = true := by simpa using hmn
        have hw3 := wrap_succ (m := n) hmn (by have := HN.out; unfold maxL; omega)
        have hBr : Blt hr r 1 (natsV p) := (HEL.out.2 k r p HRR.out HP.out).ext HX3.out
        have hu2 : u = .vslice es ∨ Blt hr u 1 es := by
          rcases HU.out with q | q
          · exact .inl q
          · exact .inr (q.blt.ext HX3.out)
        have cr := hBr.cells
        obtain ⟨ad, hix, hmem⟩ := nest_at hu2 HRR.out cr
        have lr := hBr.len
        rw [natsV_len] at lr
        have orr := hBr.out
        have tr := hBr.tup
        have ow := HBW.out.blt.out
        simp only [AV.cells] at cr
        simp only [isTuple] at tr
        clear hu2
        repeat' (first | refine Y1 ?_ | refine U7 ?_ | refine U8 ?_ | refine U9 ?_ | refine Y2 ?_ | ((first | refine Y3 ?_ | refine Y8 ?_); simp only [tN, bN, eN, true_and]) | (apply U4; exact Z1; exact rfl; simp only [pM, pN, rR, rP]) | (refine J3 rfl rfl ?_ ?_; exact Z2) | (refine J4 rfl rfl ?_ ?_; exact Z2; simp only [pM, pN, rR, rP]) | (apply U3; exact rfl; exact rfl; exact Z1; refine ⟨fun hh => ?_, fun hh => ?_⟩ <;> try simp only [Bool.not_true, Bool.not_false, pM, pN] at hh ⊢) | (apply U5; exact rfl; exact Z3; simp only [pM, pN, rR, rP]) | (simp only [tP, bP, eP, true_and]) | (refine Y7 ?_; simp only [tR, bR, eR, true_and]) | (refine Y9 ?_; simp only [tX, bS, bO, Nat.reduceBEq, tN, bN]) | (refine Y4 ?_ ?_; exact Z2) | (refine Y5 ?_ ?_; exact Z2) | (apply Y6; exact Z1; refine ⟨fun hh => ?_, fun hh => ?_⟩))
        refine W.loopN p.length (fun j F => ∃ e, F = Fr.mk 129 false e .nil hr [] none ∧ e.get 0 = some (.int .i64 ↑n) ∧ e.get 3 = some u ∧ e.get 4 = some (.int .i64 ↑i) ∧ e.get 5 = some w ∧ e.get 6 = some (.int .i64 ↑k) ∧ e.get 7 = some (.int .i64 ↑m) ∧ e.get 8 = some (.bool ((p.take j).contains m)) ∧ e.get 9 = some (.int .i64 ↑j) ∧ j ≤ p.length) ?_ ?_
        · refine ⟨_, rfl, ?_, ?_, ?_, ?_, ?_, ?_, ?_, ?_, by omega⟩ <;> first | exact Z2 | simp [go_sem, *]
        clear h0 h3 h4 h5 h6 h7 hd
        rintro j F ⟨e, rfl, h0, h3, h4, h5, h6, h7, h8, h9, hj⟩
        by_cases hjp : j < p.length
        · have hd : decide ((j : Int) < (p.length : Int)) = true := by simpa using hjp
          have hw4 := wrap_succ (m := p.length) hjp (by have := HPL.out; have := HN.out; unfold maxL; omega)
          obtain ⟨v, hv⟩ := get_some hjp
          obtain ⟨id, hidx, hgr⟩ := hBr.idx (P := Tryz.prog) (t := 39) (e := 3) (ag := false) Tryz.underlying39 ty_lay3 (k := j) (by rw [natsV_len]; exact hjp)
          have hav := nat_at' hv
          have hct := cont_take (m := m) hv
          have HB := Lib.hid hBr
          cases hcm : (p.take j).contains m with
          | true =>
            rw [hcm] at h8 hct
            have HCT := Lib.hid hct
            clear hct hcm hv hBr
            repeat' (first | refine Y1 ?_ | refine U7 ?_ | refine U8 ?_ | refine U9 ?_ | refine Y2 ?_ | ((first | refine Y3 ?_ | refine Y8 ?_); simp only [tN, bN, eN, true_and]) | (apply U4; exact Z1; exact rfl; simp only [pM, pN, rR, rP]) | (refine J3 rfl rfl ?_ ?_; exact Z2) | (refine J4 rfl rfl ?_ ?_; exact Z2; simp only [pM, pN, rR, rP]) | (apply U3; exact rfl; exact rfl; exact Z1; refine ⟨fun hh => ?_, fun hh => ?_⟩ <;> try simp only [Bool.not_true, Bool.not_false, pM, pN] at hh ⊢) | (apply U5; exact rfl; exact Z3; simp only [pM, pN, rR, rP]) | (simp only [tP, bP, eP, true_and]) | (refine Y7 ?_; simp only [tR, bR, eR, true_and]) | (refine Y9 ?_; simp only [tX, bS, bO, Nat.reduceBEq, tN, bN]) | (refine Y4 ?_ ?_; exact Z2) | (refine Y5 ?_ ?_; exact Z2) | (apply Y6; exact Z1; refine ⟨fun hh => ?_, fun hh => ?_⟩))
            refine ⟨hjp, _, rfl, ?_, ?_, ?_, ?_, ?_, ?_, ?_, ?_, by omega⟩
            case refine_7 => rw [HCT.out]; simp only [go_sem, *, Nat.reduceLT, Int.reduceEq, Int.reduceBEq, Int.reduceLE, Int.reduceLT, Nat.reduceAdd, Nat.reduceBEq, Nat.reduceEqDiff, reduceIte, Nat.reduceLeDiff, Nat.reduceMul, Nat.reduceSub, reduceCtorEq, Bool.true_or]
            all_goals exact Z2
          | false =>
            rw [hcm] at h8 hct
            have HCT := Lib.hid hct
            clear hct hcm hv hBr
            repeat' (first | refine Y1 ?_ | refine U7 ?_ | refine U8 ?_ | refine U9 ?_ | refine Y2 ?_ | ((first | refine Y3 ?_ | refine Y8 ?_); simp only [tN, bN, eN, true_and]) | (apply U4; exact Z1; exact rfl; simp only [pM, pN, rR, rP]) | (refine J3 rfl rfl ?_ ?_; exact Z2) | (refine J4 rfl rfl ?_ ?_; exact Z2; simp only [pM, pN, rR, rP]) | (apply U3; exact rfl; exact rfl; exact Z1; refine ⟨fun hh => ?_, fun hh => ?_⟩ <;> try simp only [Bool.not_true, Bool.not_false, pM, pN] at hh ⊢) | (apply U5; exact rfl; exact Z3; simp only [pM, pN, rR, rP]) | (simp only [tP, bP, eP, true_and]) | (refine Y7 ?_; simp only [tR, bR, eR, true_and]) | (refine Y9 ?_; simp only [tX, bS, bO, Nat.reduceBEq, tN, bN]) | (refine Y4 ?_ ?_; exact Z2) | (refine Y5 ?_ ?_; exact Z2) | (apply Y6; exact Z1; refine ⟨fun hh => ?_, fun hh => ?_⟩))
            refine ⟨hjp, _, rfl, ?_, ?_, ?_, ?_, ?_, ?_, ?_, ?_, by omega⟩
            case refine_7 => rw [HCT.out]; simp only [go_sem, *, Nat.reduceLT, Int.reduceEq, Int.reduceBEq, Int.reduceLE, Int.reduceLT, Nat.reduceAdd, Nat.reduceBEq, Nat.reduceEqDiff, reduceIte, Nat.reduceLeDiff, Nat.reduceMul, Nat.reduceSub, reduceCtorEq, Bool.false_or]
            all_goals exact Z2
        · have hd : decide ((j : Int) < (p.length : Int)) = false := by simpa using hjp
          have hjl : j = p.length := by omega
          rw [hjl, List.take_length] at h8
          have HB := Lib.hid hBr
          clear hjl hjp hj
          cases hcm : p.contains m with
          | true =>
            rw [hcm] at h8
            have HK := Lib.hid (kids_no hcm)
            clear hcm hBr
            repeat' (first | refine Y1 ?_ | refine U7 ?_ | refine U8 ?_ | refine U9 ?_ | refine Y2 ?_ | ((first | refine Y3 ?_ | refine Y8 ?_); simp only [tN, bN, eN, true_and]) | (apply U4; exact Z1; exact rfl; simp only [pM, pN, rR, rP]) | (refine J3 rfl rfl ?_ ?_; exact Z2) | (refine J4 rfl rfl ?_ ?_; exact Z2; simp only [pM, pN, rR, rP]) | (apply U3; exact rfl; exact rfl; exact Z1; refine ⟨fun hh => ?_, fun hh => ?_⟩ <;> try simp only [Bool.not_true, Bool.not_false, pM, pN] at hh ⊢) | (apply U5; exact rfl; exact Z3; simp only [pM, pN, rR, rP]) | (simp only [tP, bP, eP, true_and]) | (refine Y7 ?_; simp only [tR, bR, eR, true_and]) | (refine Y9 ?_; simp only [tX, bS, bO, Nat.reduceBEq, tN, bN]) | (refine Y4 ?_ ?_; exact Z2) | (refine Y5 ?_ ?_; exact Z2) | (apply Y6; exact Z1; refine ⟨fun hh => ?_, fun hh => ?_⟩))
            refine ⟨hmn, _, hr, w, es'', rfl, HX3.out, HBW.out, ?_, HRO3.out, ?_, ?_, ?_, ?_, ?_, ?_, by omega⟩
            · rw [HK.out]; exact HEL3.out
            all_goals exact Z2
          | false =>
            rw [hcm] at h8
            have HK := Lib.hid (kids_yes hcm)
            have hsz : ∀ v ∈ natsV p, v.cells.length = 1 := fun v hv => by
              obtain ⟨k, _, rfl⟩ := List.mem_map.1 hv
              rfl
            have hlen : (natsV p).length ≤ most := by
              rw [natsV_len, HPL.out]
              have := HN.out
              unfold most
              omega
            have hll : p.length + (0 + 1) ≤ most := by
              rw [HPL.out]
              have := HN.out
              unfold most
              omega
            have hBw := HBW.out
            have hlw : es''.length + (0 + 1) ≤ most := by
              have a1 := HEL3.out.1
              have a2 := flat_small HN.out ((lev n i).take k)
              have a3 := kids_small (n := m) p
              have a4 := HES.out
              have a5 := HN.out
              rw [List.length_append] at a1
              rw [List.length_take] at a2
              unfold most
              omega
            have HLL := Lib.hid hlw
            clear hcm
            repeat' (first | (apply WO1.appendC (t := 39) (u := 39) (e := 3) (e' := 3) (sz := 1) (tl := []) (y := r) (l := natsV p); (focus (first | exact Z2 | exact Z1)); exact rfl; exact Z2; exact Z2; exact Z2; (focus (exact ty_row39)); (focus (exact hBr)); (focus (exact hsz)); (focus (exact hlen)); (intro v1 hp1 hB1 ho1 hX1; simp only [pM, pN])) | (apply WO1.appendN (t := 39) (u := 39) (e := 3) (e' := 3) (sz := 1) (tl := []) (b := hr.next) (h0 := hr); (focus (exact hB1)); (focus (exact hX1)); exact Z1; exact rfl; exact Z2; exact Z2; exact Z2; (focus (exact ty_row39)); exact Z1; (focus (intro v hv; simp at hv; subst hv; rfl)); (focus (simp only [natsV_len, List.length_cons, List.length_nil]; exact hll)); (focus (simp)); (intro v2 hp2 hB2 ho2 hX2; have hc2 := hB2.blt.cells; have ht2 := hB2.blt.tup; have hl2 := hB2.blt.len; simp only [AV.cells] at hc2; simp only [isTuple] at ht2; simp only [pM, pN])) | (apply WO1.appendW (t := 194) (u := 194) (e := 39) (e' := 39) (sz := 1) (tl := []) (x := w) (l := es''); (focus (exact (hBw.stay hX2))); exact Z1; exact rfl; exact Z2; exact Z2; exact Z2; (focus (exact ty_row194)); exact Z1; (focus (intro v hv; simp at hv; subst hv; exact congrArg List.length hB2.blt.cells)); (focus (simp only [List.length_cons, List.length_nil]; exact hlw)); (focus (simp)); (intro v3 hp3 hB3 ho3 hK3 hE3; simp only [pM, pN])) | refine Y1 ?_ | refine U7 ?_ | refine U8 ?_ | refine U9 ?_ | refine Y2 ?_ | ((first | refine Y3 ?_ | refine Y8 ?_); simp only [tN, bN, eN, true_and]) | (apply U4; exact Z1; exact rfl; simp only [pM, pN, rR, rP]) | (refine J3 rfl rfl ?_ ?_; exact Z2) | (refine J4 rfl rfl ?_ ?_; exact Z2; simp only [pM, pN, rR, rP]) | (apply U3; exact rfl; exact rfl; exact Z1; refine ⟨fun hh => ?_, fun hh => ?_⟩ <;> try simp only [Bool.not_true, Bool.not_false, pM, pN] at hh ⊢) | (apply U5; exact rfl; exact Z3; simp only [pM, pN, rR, rP]) | (simp only [tP, bP, eP, true_and]) | (refine Y7 ?_; simp only [tR, bR, eR, true_and]) | (refine Y9 ?_; simp only [tX, bS, bO, Nat.reduceBEq, tN, bN]) | (refine Y4 ?_ ?_; exact Z2) | (refine Y5 ?_ ?_; exact Z2) | (apply Y6; exact Z1; refine ⟨fun hh => ?_, fun hh => ?_⟩))
            have hK : Keeps hp2 hp3 w := hK3
            have hE : v3 = .row hp2.next 0 (es'' ++ [v2]).length := hE3
            have hX2' : HExt hr hp2 := hX2
            have bw : Blt hp2 w 1 es'' := HBW.out.blt.ext hX2'
            have hB2' : Blt hp2 v2 1 (natsV (p ++ [m])) := by simpa [natsV] using hB2.blt
            have HKK := Lib.hid hK
            have HEE := Lib.hid hE
            have HXX := Lib.hid hX2'
            have HBB := Lib.hid bw
            have HB22 := Lib.hid hB2'
            clear hK hE hX2' bw hB2' hK3 hE3
            refine ⟨hmn, _, hp3, v3, es'' ++ [v2], rfl, ?_, ?_, ?_, ?_, ?_, ?_, ?_, ?_, ?_, ?_, by omega⟩
            · have a1 := HX3.out.1
              have a2 := HXX.out.1
              have a3 := HKK.out.1
              refine ⟨by omega, fun id hid => ?_⟩
              rw [HKK.out.2 id (by omega) fun o n e => ?_, HXX.out.2 id (by omega), HX3.out.2 id hid]
              rcases HBW.out with ⟨q, _⟩ | ⟨j, q, _, q2, _⟩
              · rw [q] at e; cases e
              · rw [q] at e; cases e; omega
            · have a1 := HX3.out.1
              have a2 := HXX.out.1
              rcases hB3 with ⟨_, e⟩ | ⟨j, q1, q2, q3, q4⟩
              · exact absurd e (by simp)
              · refine .inr ⟨j, q1, q2, ?_, q3, q4⟩
                have := HEE.out
                rw [q1] at this
                cases this
                omega
            · rw [HK.out, ← List.append_assoc]
              exact ((HEL3.out.ext HXX.out).kept HBB.out HRO3.out HKK.out).add (HB22.out.kept HBB.out HRO3.out HKK.out)
            · intro r' hr'
              rcases List.mem_append.1 hr' with q | q
              · exact HRO3.out r' q
              · obtain rfl : r' = v2 := by simpa using q
                rcases hB2.blt with ⟨_, e⟩ | ⟨j, q1, _⟩
                · exact absurd e (by simp)
                · exact ⟨j, _, q1⟩
            all_goals first | exact Z2 | (have hEE := HEE.out; simp only [go_sem, *, Nat.reduceLT, Int.reduceEq, Int.reduceBEq, Int.reduceLE, Int.reduceLT, Nat.reduceAdd, Nat.reduceBEq, Nat.reduceEqDiff, reduceIte, Nat.reduceLeDiff, Nat.reduceMul, Nat.reduceSub, reduceCtorEq]; done)
      · have hd : decide ((m : Int) < (n : Int)) = false := by simpa using hmn
        have hmn2 : m = n := by omega
        have HM := Lib.hid hmn2
        clear hmn2 hmn hm
        repeat' (first | refine Y1 ?_ | refine U7 ?_ | refine U8 ?_ | refine U9 ?_ | refine Y2 ?_ | ((first | refine Y3 ?_ | refine Y8 ?_); simp only [tN, bN, eN, true_and]) | (apply U4; exact Z1; exact rfl; simp only [pM, pN, rR, rP]) | (refine J3 rfl rfl ?_ ?_; exact Z2) | (refine J4 rfl rfl ?_ ?_; exact Z2; simp only [pM, pN, rR, rP]) | (apply U3; exact rfl; exact rfl; exact Z1; refine ⟨fun hh => ?_, fun hh => ?_⟩ <;> try simp only [Bool.not_true, Bool.not_false, pM, pN] at hh ⊢) | (apply U5; exact rfl; exact Z3; simp only [pM, pN, rR, rP]) | (simp only [tP, bP, eP, true_and]) | (refine Y7 ?_; simp only [tR, bR, eR, true_and]) | (refine Y9 ?_; simp only [tX, bS, bO, Nat.reduceBEq, tN, bN]) | (refine Y4 ?_ ?_; exact Z2) | (refine Y5 ?_ ?_; exact Z2) | (apply Y6; exact Z1; refine ⟨fun hh => ?_, fun hh => ?_⟩))
        refine ⟨hkl, _, hr, w, es'', rfl, HX3.out, HBW.out, ?_, HRO3.out, ?_, ?_, ?_, ?_, ?_, by omega⟩
        · have := HEL3.out
          rw [HM.out] at this
          rw [take_flat _ HP.out]
          exact this
        all_goals exact Z2
    · have hd : decide ((k : Int) < (es.length : Int)) = false := by simpa using hkl
      have hk2 : k = es.length := by omega
      have ow := HBW.out.blt.out
      have HK := Lib.hid hk2
      clear hk2 hkl hk
      repeat' (first | refine Y1 ?_ | refine U7 ?_ | refine U8 ?_ | refine U9 ?_ | refine Y2 ?_ | ((first | refine Y3 ?_ | refine Y8 ?_); simp only [tN, bN, eN, true_and]) | (apply U4; exact Z1; exact rfl; simp only [pM, pN, rR, rP]) | (refine J3 rfl rfl ?_ ?_; exact Z2) | (refine J4 rfl rfl ?_ ?_; exact Z2; simp only [pM, pN, rR, rP]) | (apply U3; exact rfl; exact rfl; exact Z1; refine ⟨fun hh => ?_, fun hh => ?_⟩ <;> try simp only [Bool.not_true, Bool.not_false, pM, pN] at hh ⊢) | (apply U5; exact rfl; exact Z3; simp only [pM, pN, rR, rP]) | (simp only [tP, bP, eP, true_and]) | (refine Y7 ?_; simp only [tR, bR, eR, true_and]) | (refine Y9 ?_; simp only [tX, bS, bO, Nat.reduceBEq, tN, bN]) | (refine Y4 ?_ ?_; exact Z2) | (refine Y5 ?_ ?_; exact Z2) | (apply Y6; exact Z1; refine ⟨fun hh => ?_, fun hh => ?_⟩))
      refine ⟨hlt, _, hq, w, es', rfl, HX.out.trans HX2.out, ?_, ?_, fun _ => HRO2.out, ?_, ?_, ?_, by omega⟩
      · right
        rcases HBW.out with q | ⟨j, q1, q2, q3, q4, q5⟩
        · exact .inl q
        · exact .inr ⟨j, q1, q2, Nat.le_trans HX.out.1 q3, q4, q5⟩
      · have := HEL2.out
        rw [HK.out, HEL.out.1, List.take_length] at this
        rw [lev_succ]
        exact this
      all_goals exact Z2
  · have hd : decide ((i : Int) < (n : Int)) = false := by simpa using hlt
    have hin : i = n := by omega
    subst hin
    have ou : outV (some u) = some u := by
      rcases HU.out with rfl | q
      · rfl
      · exact q.blt.out
    clear hlt hi
    have hfz : ∃ h', freeze hb u = some (.vslice es, h') ∧ HExt h h' ∧ Elems h' es (lev i i) := by
      rcases HU.out with rfl | q
      · exact ⟨hb, rfl, HX.out, HEL.out⟩
      · obtain ⟨h', f1, f2, f3⟩ := q.blt.frz1
        have hne : es ≠ [] := by
          intro e
          have := HEL.out.1
          rw [e] at this
          exact lev_ne HN1.out HN.out (List.eq_nil_of_length_eq_zero this.symm)
        have hs : slN es = .vslice es := by
          cases es with
          | nil => exact absurd rfl hne
          | cons x es => rfl
        have hk : Keeps hb h' u := ⟨by omega, fun id _ hid => f3 id hid⟩
        refine ⟨h', ?_, ⟨by have := HX.out.1; omega, fun id hid => ?_⟩, HEL.out.kept q.blt (HRO.out HN1.out) hk⟩
        · rw [hs] at f1
          rcases q with ⟨_, e⟩ | ⟨j, rfl, _⟩
          · exact absurd e hne
          · exact f1
        · rw [f3 id fun o n e => ?_, HX.out.2 id hid]
          rcases q with ⟨q, _⟩ | ⟨j, q, _, q2, _⟩
          · rw [q] at e; cases e
          · rw [q] at e; cases e; omega
    obtain ⟨h', hz, hxx, hee⟩ := hfz
    have HXX := Lib.hid hxx
    have HEE := Lib.hid hee
    clear hxx hee
    repeat' (first | refine Y1 ?_ | refine U7 ?_ | refine U8 ?_ | refine U9 ?_ | refine Y2 ?_ | ((first | refine Y3 ?_ | refine Y8 ?_); simp only [tN, bN, eN, true_and]) | (apply U4; exact Z1; exact rfl; simp only [pM, pN, rR, rP]) | (refine J3 rfl rfl ?_ ?_; exact Z2) | (refine J4 rfl rfl ?_ ?_; exact Z2; simp only [pM, pN, rR, rP]) | (apply U3; exact rfl; exact rfl; exact Z1; refine ⟨fun hh => ?_, fun hh => ?_⟩ <;> try simp only [Bool.not_true, Bool.not_false, pM, pN] at hh ⊢) | (apply U5; exact rfl; exact Z3; simp only [pM, pN, rR, rP]) | (simp only [tP, bP, eP, true_and]) | (refine Y7 ?_; simp only [tR, bR, eR, true_and]) | (refine Y9 ?_; simp only [tX, bS, bO, Nat.reduceBEq, tN, bN]) | (refine Y4 ?_ ?_; exact Z2) | (refine Y5 ?_ ?_; exact Z2) | (apply Y6; exact Z1; refine ⟨fun hh => ?_, fun hh => ?_⟩))
    all_goals simp only [resV_def (X := dX c) Tryz.func129, Tryz.results129, resultsV, resultV, go_sem, *, Nat.reduceLT, Int.reduceEq, Int.reduceBEq, Int.reduceLE, Int.reduceLT, Nat.reduceAdd, Nat.reduceBEq, Nat.reduceEqDiff, reduceIte, Nat.reduceLeDiff, Nat.reduceMul, Nat.reduceSub, reduceCtorEq, frzRes, dFrz, frzCells, isRet_ret, tupleOf]
    exact ordsR_ret HXX.out HEE.out
end Go.AM
set_option maxRecDepth 100000
namespace Go.AM
open Go Go.Proofs
variable [Keep]
attribute [local irreducible] W WO WO1 WD WQ WT thenQ blockQ endR isRet retK Cl ClR
def sp175 : List AV → Option AV
  | [.agg [.int .i64 x, .int .i64 y], .agg [.int .i64 a, .int .i64 b], .int .i64 off] => some (.bool (offB off ⟨x, y⟩ ⟨a, b⟩))
  | _ => none
theorem p175 : ∀ args v, sp175 args = some v → v.pur = true := by
  intro args v h
  unfold sp175 at h
  split at h
  · cases h; rfl
  · cases h
theorem F175 : IntrFn Tryz.prog 175 (pureFn sp175) := by
  refine pure_fn (X := dX cGG) cGG_sound p175 ?_
  intro args v h
  unfold sp175 at h
  split at h
  · rename_i x y a b off
    have h := Option.some.inj h
    subst h
    have w1 : IntKind.i64.wrap (x - a) = w64 (x - a) := rfl
    have w2 : IntKind.i64.wrap (y - b) = w64 (y - b) := rfl
    have w3 : IntKind.i64.wrap (-off) = w64 (-off) := rfl
    have k97a : ∀ h, Cl (dX cGG) 97 [.int .i64 (w64 (x - a)), .int .i64 (w64 (-off)), .int .i64 off] h (.ret (.bool (inB (w64 (x - a)) (w64 (-off)) off)) h none) := fun h => K97 rfl _ _ _ h
    have k97b : ∀ h, Cl (dX cGG) 97 [.int .i64 (w64 (y - b)), .int .i64 (w64 (-off)), .int .i64 off] h (.ret (.bool (inB (w64 (y - b)) (w64 (-off)) off)) h none) := fun h => K97 rfl _ _ _ h
    have HF := Lib.hid (show offB off ⟨x, y⟩ ⟨a, b⟩ = (inB (w64 (x - a)) (w64 (-off)) off && inB (w64 (y - b)) (w64 (-off)) off) from rfl)
    generalize offB off ⟨x, y⟩ ⟨a, b⟩ = r at *
    generalize inB (w64 (x - a)) (w64 (-off)) off = b1 at *
    generalize inB (w64 (y - b)) (w64 (-off)) off = b2 at *
    generalize w64 (x - a) = z1 at *
    generalize w64 (y - b) = z2 at *
    generalize w64 (-off) = z3 at *
    refine ClR.walk (c := _) rfl Tryz.func175 rfl (by kernel_rfl) rfl isRet_fail ?_
    simp only [entryEnv, Nat.reduceAdd, emptyHp]
    cases b1 <;> cases b2
    all_goals (
      repeat' (first | refine Y1 ?_ | refine U7 ?_ | refine U8 ?_ | refine U9 ?_ | refine Y2 ?_ | ((first | refine Y3 ?_ | refine Y8 ?_); simp only [tN, bN, eN, true_and]) | (apply U4; exact Z1; exact rfl; simp only [pM, pN, rR, rP]) | (refine J3 rfl rfl ?_ ?_; exact Z2) | (refine J4 rfl rfl ?_ ?_; exact Z2; simp only [pM, pN, rR, rP]) | (apply U3; exact rfl; exact rfl; exact Z1; refine ⟨fun hh => ?_, fun hh => ?_⟩ <;> try simp only [Bool.not_true, Bool.not_false, pM, pN] at hh ⊢) | (apply U6; exact Z1; exact Z1; (focus (simp only [List.nil_append, List.append_nil]; first | exact k97a _ | exact k97b _)); simp only [pM, pN, rR, rP]) | (apply U5; exact rfl; exact Z3; simp only [pM, pN, rR, rP]) | (simp only [tP, bP, eP, true_and]) | (refine Y7 ?_; simp only [tR, bR, eR, true_and]) | (refine Y9 ?_; simp only [tX, bS, bO, Nat.reduceBEq, tN, bN]) | (refine Y4 ?_ ?_; exact Z2) | (refine Y5 ?_ ?_; exact Z2) | (apply Y6; exact Z1; refine ⟨fun hh => ?_, fun hh => ?_⟩))
      all_goals simp only [resV_def (X := dX cGG) Tryz.func175, Tryz.results175, resultsV, resultV, go_sem, *, Nat.reduceLT, Int.reduceEq, Int.reduceBEq, Int.reduceLE, Int.reduceLT, Nat.reduceAdd, Nat.reduceBEq, Nat.reduceEqDiff, reduceIte, Nat.reduceLeDiff, Nat.reduceMul, Nat.reduceSub, reduceCtorEq, frzRes, dFrz, frzCells, isRet_ret, tupleOf]
      all_goals (rw [HF.out]; rfl))
  · cases h
theorem K175 {X : Ctx} (hX : X.intr 175 = some (pureFn sp175)) (p q : Pt) (off : Int) (h : Heap) : Cl X 175 [.agg [.int .i64 p.x, .int .i64 p.y], .agg [.int .i64 q.x, .int .i64 q.y], .int .i64 off] h (.ret (.bool (offB off p q)) h none) := Cl.intr hX rfl
def gd131 (hs ps : List Pt) (turn : Int) (o : List Int) : Bool := inB turn 0 7 && decide (hs.length = ps.length) && decide (o.length = ps.length) && o.all fun k => decide (0 ≤ k) && decide (k < (ps.length : Int))
def sp131 : List AV → Option AV
  | [la, .int .i64 turn, oa, ca, .int .i64 off] => match slV ptC la, slV intC oa, slV ptC ca with
    | some ps, some o, some hs => if gd131 hs ps turn o = true then some (.bool (accB off hs ps turn (o.map Int.toNat))) else none
    | _, _, _ => none
  | _ => none
theorem p131 : ∀ args v, sp131 args = some v → v.flat = true := by
  intro args v h
  unfold sp131 at h
  split at h
  · split at h
    · split at h
      · have h := Option.some.inj h
        subst h
        rfl
      · cases h
    · cases h
  · cases h
noncomputable def cGJ : FuncId → Option (List AV → Heap → Option (AV × Heap))
  | 81 => some (pureFn sp81)
  | 175 => some (pureFn sp175)
  | _ => none
theorem cGJ_sound : Sound (dX cGJ) := dX_sound (fun f g h => by
  unfold cGJ at h
  split at h
  · cases h; exact F81
  · cases h; exact F175
  · cases h)
set_option maxHeartbeats 4000000 in
theorem F131 : IntrFn Tryz.prog 131 (flatFn sp131) := by
  refine flat_fn (X := dX cGJ) cGJ_sound p131 ?_
  intro args v h
  unfold sp131 at h
  split at h
  · rename_i la turn oa ca off
    split at h
    · rename_i ps os hs hl ho hc
      split at h
      · rename_i hg
        have h := Option.some.inj h
        subst h
        unfold gd131 at hg
        simp only [Bool.and_eq_true, decide_eq_true_eq] at hg
        obtain ⟨⟨⟨m1, m2⟩, m3⟩, m4⟩ := hg
        have o1 := sl_out hl
        have o2 := sl_out ho
        have o3 := sl_out hc
        have l3 := sl_len hc
        rw [m2] at l3
        have hmax := sl_max hl
        have HL := Lib.hid hl
        have HO := Lib.hid ho
        have HC := Lib.hid hc
        have HLEN := Lib.hid m2
        have HOL := Lib.hid m3
        have HOA := Lib.hid m4
        have HIN := Lib.hid m1
        have HMX := Lib.hid hmax
        generalize hres : accB off hs ps turn (os.map Int.toNat) = res
        have HR := Lib.hid hres
        clear hl ho hc m1 m2 m3 m4 hmax hres
        refine ClR.walk (c := _) rfl Tryz.func131 rfl (by kernel_rfl) rfl isRet_fail ?_
        simp only [entryEnv, Nat.reduceAdd, emptyHp]
        repeat' (first | refine Y1 ?_ | refine U7 ?_ | refine U8 ?_ | refine U9 ?_ | refine Y2 ?_ | ((first | refine Y3 ?_ | refine Y8 ?_); simp only [tN, bN, eN, true_and]) | (apply U4; exact Z1; exact rfl; simp only [pM, pN, rR, rP]) | (refine J3 rfl rfl ?_ ?_; exact Z2) | (refine J4 rfl rfl ?_ ?_; exact Z2; simp only [pM, pN, rR, rP]) | (apply U3; exact rfl; exact rfl; exact Z1; refine ⟨fun hh => ?_, fun hh => ?_⟩ <;> try simp only [Bool.not_true, Bool.not_false, pM, pN] at hh ⊢) | (apply U5; exact rfl; exact Z3; simp only [pM, pN, rR, rP]) | (simp only [tP, bP, eP, true_and]) | (refine Y7 ?_; simp only [tR, bR, eR, true_and]) | (refine Y9 ?_; simp only [tX, bS, bO, Nat.reduceBEq, tN, bN]) | (refine Y4 ?_ ?_; exact Z2) | (refine Y5 ?_ ?_; exact Z2) | (apply Y6; exact Z1; refine ⟨fun hh => ?_, fun hh => ?_⟩))
        refine W.loopN ps.length (fun i F => ∃ e, F = Fr.mk 131 false e .nil ⟨0, .nil⟩ [] none ∧ (∀ j, j < i → offB off (turnP turn (ps.getD ((os.map Int.toNat).getD j 0) ⟨0, 0⟩)) (hs.getD j ⟨0, 0⟩) = true) ∧ e.get 0 = some la ∧ e.get 1 = some (.int .i64 turn) ∧ e.get 2 = some oa ∧ e.get 3 = some ca ∧ e.get 4 = some (.int .i64 off) ∧ e.get 11 = some (.int .i64 ↑i) ∧ i ≤ ps.length) ?_ ?_
        · refine ⟨_, rfl, fun j hj => absurd hj (by omega), ?_, ?_, ?_, ?_, ?_, ?_, ?_⟩ <;> first | exact Z2 | simp [go_sem, *]
        rintro i F ⟨e, rfl, hall, h0, h1, h2, h3, h4, h11, hi⟩
        have HALL := Lib.hid hall
        clear hall
        by_cases hlt : i < ps.length
        · have hd : decide ((i : Int) < (ps.length : Int)) = true := by simpa using hlt
          have hw := wrap_succ hlt HMX.out
          obtain ⟨x, hx⟩ := get_some (show i < os.length by rw [HOL.out]; exact hlt)
          have hxr := List.all_eq_true.1 HOA.out x (List.mem_of_getElem? hx)
          simp only [Bool.and_eq_true, decide_eq_true_eq] at hxr
          obtain ⟨v, rfl⟩ : ∃ v : Nat, x = v := ⟨x.toNat, by omega⟩
          have hv : (os.map Int.toNat)[i]? = some v := by simp [hx]
          obtain ⟨a, ha⟩ := get_some (show v < ps.length by omega)
          obtain ⟨q, hq⟩ := get_some (show i < hs.length by rw [HLEN.out]; exact hlt)
          have hio := int_idx HO.out hx
          have hix := pts_idx HL.out ha
          have hiy := pts_idx HC.out hq
          have hat := off_at (off := off) (t := turn) hq hv ha
          have hno := fun hh => acc_no (off := off) (t := turn) hq hv ha hh
          have htr := turnP_R HIN.out a
          have k81 : ∀ h, Cl (dX cGJ) 81 [.agg [.int .i64 a.x, .int .i64 a.y], .int .i64 turn] h (.ret (.agg [.int .i64 (turnP turn a).x, .int .i64 (turnP turn a).y]) h none) := fun h => by
            rw [htr]
            exact K81 rfl a turn h
          generalize turnP turn a = b at *
          have k175 : ∀ h, Cl (dX cGJ) 175 [.agg [.int .i64 b.x, .int .i64 b.y], .agg [.int .i64 q.x, .int .i64 q.y], .int .i64 off] h (.ret (.bool (offB off b q)) h none) := fun h => K175 rfl b q off h
          have HAT := Lib.hid hat
          have HNO := Lib.hid hno
          clear hx hv ha hq hat hno hxr htr
          cases hof : offB off b q with
          | true =>
            rw [hof] at k175
            have HOF := Lib.hid hof
            clear hof
            repeat' (first | (apply W.drawQ (id := 4) (l1 := [0, 1, 2, 3, 4, 5, 6, 7, 8, 9, 10, 11, 12, 13, 14, 15]) (l2 := []); kernel_rfl; kernel_rfl; kernel_rfl; exact Z4) | (refine ⟨⟨trivial, trivial⟩, ?_⟩) | (refine ⟨⟨rfl, rfl⟩, ?_⟩) | (refine Z5 rfl rfl ?_) | (refine Z8 rfl rfl ?_) | (refine Z6 ?_) | (refine Z9 ?_; simp only [tN, bN, eN, true_and]) | (apply Z7; exact rfl; exact rfl; exact Z1; simp only [pM, pN]) | refine Y1 ?_ | refine U7 ?_ | refine U8 ?_ | refine U9 ?_ | refine Y2 ?_ | ((first | refine Y3 ?_ | refine Y8 ?_); simp only [tN, bN, eN, true_and]) | (apply U4; exact Z1; exact rfl; simp only [pM, pN, rR, rP]) | (refine J3 rfl rfl ?_ ?_; exact Z2) | (refine J4 rfl rfl ?_ ?_; exact Z2; simp only [pM, pN, rR, rP]) | (apply U3; exact rfl; exact rfl; exact Z1; refine ⟨fun hh => ?_, fun hh => ?_⟩ <;> try simp only [Bool.not_true, Bool.not_false, pM, pN] at hh ⊢) | (apply U6; exact Z1; exact Z1; (focus (simp only [List.nil_append, List.append_nil]; first | exact k81 _ | exact k175 _)); simp only [pM, pN, rR, rP]) | (apply U5; exact rfl; exact Z3; simp only [pM, pN, rR, rP]) | (simp only [tP, bP, eP, true_and]) | (refine Y7 ?_; simp only [tR, bR, eR, true_and]) | (refine Y9 ?_; simp only [tX, bS, bO, Nat.reduceBEq, tN, bN]) | (refine Y4 ?_ ?_; exact Z2) | (refine Y5 ?_ ?_; exact Z2) | (apply Y6; exact Z1; refine ⟨fun hh => ?_, fun hh => ?_⟩))
            refine ⟨hlt, _, rfl, fun j hj => ?_, ?_, ?_, ?_, ?_, ?_, ?_, by omega⟩
            · rcases Nat.lt_or_ge j i with q | q
              · exact HALL.out j q
              · obtain rfl : j = i := by omega
                rw [HAT.out]; exact HOF.out
            all_goals exact Z2
          | false =>
            rw [hof] at k175
            have HF := Lib.hid (HNO.out hof)
            clear hof
            repeat' (first | (apply W.drawQ (id := 4) (l1 := [0, 1, 2, 3, 4, 5, 6, 7, 8, 9, 10, 11, 12, 13, 14, 15]) (l2 := []); kernel_rfl; kernel_rfl; kernel_rfl; exact Z4) | (refine ⟨⟨trivial, trivial⟩, ?_⟩) | (refine ⟨⟨rfl, rfl⟩, ?_⟩) | (refine Z5 rfl rfl ?_) | (refine Z8 rfl rfl ?_) | (refine Z6 ?_) | (refine Z9 ?_; simp only [tN, bN, eN, true_and]) | (apply Z7; exact rfl; exact rfl; exact Z1; simp only [pM, pN]) | refine Y1 ?_ | refine U7 ?_ | refine U8 ?_ | refine U9 ?_ | refine Y2 ?_ | ((first | refine Y3 ?_ | refine Y8 ?_); simp only [tN, bN, eN, true_and]) | (apply U4; exact Z1; exact rfl; simp only [pM, pN, rR, rP]) | (refine J3 rfl rfl ?_ ?_; exact Z2) | (refine J4 rfl rfl ?_ ?_; exact Z2; simp only [pM, pN, rR, rP]) | (apply U3; exact rfl; exact rfl; exact Z1; refine ⟨fun hh => ?_, fun hh => ?_⟩ <;> try simp only [Bool.not_true, Bool.not_false, pM, pN] at hh ⊢) | (apply U6; exact Z1; exact Z1; (focus (simp only [List.nil_append, List.append_nil]; first | exact k81 _ | exact k175 _)); simp only [pM, pN, rR, rP]) | (apply U5; exact rfl; exact Z3; simp only [pM, pN, rR, rP]) | (simp only [tP, bP, eP, true_and]) | (refine Y7 ?_; simp only [tR, bR, eR, true_and]) | (refine Y9 ?_; simp only [tX, bS, bO, Nat.reduceBEq, tN, bN]) | (refine Y4 ?_ ?_; exact Z2) | (refine Y5 ?_ ?_; exact Z2) | (apply Y6; exact Z1; refine ⟨fun hh => ?_, fun hh => ?_⟩))
            all_goals simp only [resV_def (X := dX cGJ) Tryz.func131, Tryz.results131, resultsV, resultV, go_sem, *, Nat.reduceLT, Int.reduceEq, Int.reduceBEq, Int.reduceLE, Int.reduceLT, Nat.reduceAdd, Nat.reduceBEq, Nat.reduceEqDiff, reduceIte, Nat.reduceLeDiff, Nat.reduceMul, Nat.reduceSub, reduceCtorEq, frzRes, dFrz, frzCells, isRet_ret, tupleOf]
            rw [← HR.out, HF.out]
        · have hd : decide ((i : Int) < (ps.length : Int)) = false := by simpa using hlt
          have HA := Lib.hid (show accB off hs ps turn (os.map Int.toNat) = true from all_yes fun j hj => HALL.out j (by rw [HLEN.out] at hj; omega))
          clear hlt hi
          repeat' (first | (refine ⟨⟨trivial, trivial⟩, ?_⟩) | (refine ⟨⟨rfl, rfl⟩, ?_⟩) | (refine Z5 rfl rfl ?_) | (refine Z8 rfl rfl ?_) | (refine Z6 ?_) | (refine Z9 ?_; simp only [tN, bN, eN, true_and]) | (apply Z7; exact rfl; exact rfl; exact Z1; simp only [pM, pN]) | refine Y1 ?_ | refine U7 ?_ | refine U8 ?_ | refine U9 ?_ | refine Y2 ?_ | ((first | refine Y3 ?_ | refine Y8 ?_); simp only [tN, bN, eN, true_and]) | (apply U4; exact Z1; exact rfl; simp only [pM, pN, rR, rP]) | (refine J3 rfl rfl ?_ ?_; exact Z2) | (refine J4 rfl rfl ?_ ?_; exact Z2; simp only [pM, pN, rR, rP]) | (apply U3; exact rfl; exact rfl; exact Z1; refine ⟨fun hh => ?_, fun hh => ?_⟩ <;> try simp only [Bool.not_true, Bool.not_false, pM, pN] at hh ⊢) | (apply U5; exact rfl; exact Z3; simp only [pM, pN, rR, rP]) | (simp only [tP, bP, eP, true_and]) | (refine Y7 ?_; simp only [tR, bR, eR, true_and]) | (refine Y9 ?_; simp only [tX, bS, bO, Nat.reduceBEq, tN, bN]) | (refine Y4 ?_ ?_; exact Z2) | (refine Y5 ?_ ?_; exact Z2) | (apply Y6; exact Z1; refine ⟨fun hh => ?_, fun hh => ?_⟩))
          all_goals simp only [resV_def (X := dX cGJ) Tryz.func131, Tryz.results131, resultsV, resultV, go_sem, *, Nat.reduceLT, Int.reduceEq, Int.reduceBEq, Int.reduceLE, Int.reduceLT, Nat.reduceAdd, Nat.reduceBEq, Nat.reduceEqDiff, reduceIte, Nat.reduceLeDiff, Nat.reduceMul, Nat.reduceSub, reduceCtorEq, frzRes, dFrz, frzCells, isRet_ret, tupleOf]
          rw [← HR.out, HA.out]
      · cases h
    · cases h
  · cases h
theorem K131 {X : Ctx} (hX : X.intr 131 = some (flatFn sp131)) (la r ca : AV) (hs ps : List Pt) (t : Nat) (off : Int) (p : List Nat) (hl : slV ptC la = some ps) (hc : slV ptC ca = some hs) (ht : t < 8) (hlen : hs.length = ps.length) (hp : IsOrd ps.length p) (h : Heap) (b : Blt h r 1 (natsV p)) :
    Cl X 131 [la, .int .i64 ↑t, r, ca, .int .i64 off] h (.ret (.bool (accB off hs ps (t : Nat) p)) h none) :=
  Cl.intr hX (by
    have e1 := b.seen (natsV_pur p)
    have e2 : slV intC (slN (natsV p)) = some (p.map fun k : Nat => (k : Int)) := by
      rw [natsV_ints]
      refine slV_slN ?_
      rw [List.length_map, hp.len]
      exact sl_max hl
    have hg : gd131 hs ps (t : Nat) (p.map fun k : Nat => (k : Int)) = true := by
      unfold gd131
      simp only [inB, Bool.and_eq_true, decide_eq_true_eq, List.length_map, List.all_eq_true]
      refine ⟨⟨⟨by omega, hlen⟩, hp.len⟩, fun x hx => ?_⟩
      obtain ⟨k, hk, rfl⟩ := List.mem_map.1 hx
      have := hp.lt k hk
      omega
    have e3 := toNat_map p
    simp only [flatFn, viewVs, e1, view_pur (sl_pur hl), view_pur (sl_pur hc), view_pur (a := .int .i64 (t : Int)) rfl, view_pur (a := .int .i64 off) rfl, sp131, hl, hc, e2, hg, if_true, e3])
def ext (n : Nat) : Nat → List Nat → List (List Nat)
  | 0, p => [p]
  | d + 1, p => (kidsTo p n).flatMap (ext n d)
theorem lev_ext (n : Nat) : ∀ (d i : Nat), lev n (i + d) = (lev n i).flatMap (ext n d) := by
  intro d
  induction d with
  | zero =>
    intro i
    show lev n i = (lev n i).flatMap fun p => [p]
    simp
  | succ d ih =>
    intro i
    rw [show i + (d + 1) = (i + 1) + d by omega, ih (i + 1), lev_succ, List.flatMap_assoc]
    rfl
theorem find_filter {α β : Type} (f : α → Bool) (g : α → Option β) : ∀ (l : List α), (l.filter f).findSome? g = l.findSome? fun v => if f v then g v else none := by
  intro l
  induction l with
  | nil => rfl
  | cons a l ih =>
    rw [List.filter_cons]
    cases hf : f a with
    | true =>
      simp only [if_true, List.findSome?_cons, hf]
      cases g a with
      | none => exact ih
      | some b => rfl
    | false =>
      simp only [Bool.false_eq_true, if_false, List.findSome?_cons, hf]
      exact ih
theorem ext_srch (n : Nat) (acc : List Nat → Bool) : ∀ (d : Nat) (p : List Nat), (ext n d p).find? acc = srch n acc d p := by
  intro d
  induction d with
  | zero =>
    intro p
    simp only [ext, srch, List.find?_cons, List.find?_nil]
    cases acc p <;> rfl
  | succ d ih =>
    intro p
    simp only [ext, srch, List.find?_flatMap, kidsTo, List.findSome?_map, find_filter]
    congr 1
    funext v
    simp only [Function.comp, ih]
    cases p.contains v <;> rfl
theorem lev_srch (n : Nat) (acc : List Nat → Bool) : (lev n n).find? acc = srch n acc n [] := by
  have := lev_ext n n 0
  rw [Nat.zero_add] at this
  rw [this, ← ext_srch]
  show ([[]].flatMap (ext n n)).find? acc = _
  simp
theorem lev_ord {n : Nat} {p : List Nat} : ∀ (i : Nat), ∀ p ∈ lev n i, p.Nodup ∧ ∀ k ∈ p, k < n := by
  intro i
  induction i with
  | zero => intro p hp; simp [lev] at hp; subst hp; simp
  | succ i ih =>
    intro p hp
    rw [lev_succ] at hp
    obtain ⟨q, hq, hp⟩ := List.mem_flatMap.1 hp
    unfold kidsTo at hp
    obtain ⟨v, hv, rfl⟩ := List.mem_map.1 hp
    obtain ⟨hv1, hv2⟩ := List.mem_filter.1 hv
    obtain ⟨a, b⟩ := ih q hq
    have hm : v ∉ q := by simpa using hv2
    refine ⟨?_, fun k hk => ?_⟩
    · rw [List.nodup_append]
      exact ⟨a, by simp, fun x hx y hy e => by simp at hy; subst hy; subst e; exact hm hx⟩
    · rcases List.mem_append.1 hk with q' | q'
      · exact b k q'
      · simp at q' hv1; omega
end Go.AM
set_option maxRecDepth 100000
namespace Go.AM
open Go Go.Proofs
variable [Keep]
attribute [local irreducible] W WO WO1 WD WQ WT thenQ blockQ endR isRet retK Cl ClR
attribute [local irreducible] ordsR lev accB
def refM (off : Int) (hs ps : List Pt) : Option (Nat × List Nat) := (List.range 8).findSome? fun t : Nat => ((lev ps.length ps.length).find? (accB off hs ps (t : Nat))).map fun o => ((t : Nat), o)
theorem ref_match (off : Int) (hs ps : List Pt) : refM off hs ps = matchS off hs ps := by
  unfold refM matchS
  congr 1
  funext t
  rw [lev_srch]
def refV : Option (Nat × List Nat) → AV
  | some (t, o) => .tuple [.int .i64 (t : Int), slN (natsV o)]
  | none => .tuple [.int .i64 (-1), .nilslice]
def sp66 : List AV → Option AV
  | [.agg [ca, .int .i64 off], la] => match slV ptC ca, slV ptC la with
    | some hs, some ps => if (decide (hs.length = ps.length) && decide (1 ≤ ps.length) && decide (ps.length ≤ 4)) = true then some (refV (matchS off hs ps)) else none
    | _, _ => none
  | _ => none
theorem p66 : ∀ args v, sp66 args = some v → v.pur = true := by
  intro args v h
  unfold sp66 at h
  split at h
  · split at h
    · split at h
      · have h := Option.some.inj h
        subst h
        unfold refV
        split
        · simp [AV.pur, AV.purL, slN_pur (natsV_pur _)]
        · rfl
      · cases h
    · cases h
  · cases h
noncomputable def cGK : FuncId → Option (List AV → Heap → Option (AV × Heap))
  | 99 => some (pureFn sp99)
  | 131 => some (flatFn sp131)
  | _ => none
theorem cGK_sound : Sound (dX cGK) := dX_sound (fun f g h => by
  unfold cGK at h
  split at h
  · cases h; exact F99
  · cases h; exact F131
  · cases h)
theorem find_at {l : List (List Nat)} {f : List Nat → Bool} {k : Nat} {p : List Nat} (hp : l[k]? = some p) (hb : ∀ (j : Nat) (q : List Nat), j < k → l[j]? = some q → f q = false) (h : f p = true) : l.find? f = some p := by
  induction l generalizing k with
  | nil => simp at hp
  | cons a l ih =>
    cases k with
    | zero =>
      simp at hp
      subst hp
      simp [h]
    | succ k =>
      have h0 := hb 0 a (by omega) (by simp)
      rw [List.find?_cons, h0]
      exact ih (by simpa using hp) (fun j q hj hq => hb (j + 1) q (by omega) (by simpa using hq))
theorem find_no {l : List (List Nat)} {f : List Nat → Bool} (hb : ∀ (j : Nat) (q : List Nat), l[j]? = some q → f q = false) : l.find? f = none := by
  rw [List.find?_eq_none]
  intro x hx
  obtain ⟨i, hi, rfl⟩ := List.mem_iff_getElem.1 hx
  rw [hb i _ (List.getElem?_eq_getElem hi)]
  simp
set_option maxHeartbeats 4000000 in
theorem F66 : IntrFn Tryz.prog 66 (pureFn sp66) := by
  refine pure_fn (X := dX cGK) cGK_sound p66 ?_
  intro args v h
  unfold sp66 at h
  split at h
  · rename_i ca off la
    split at h
    · rename_i hs ps hl hr
      split at h
      · rename_i hg
        have h := Option.some.inj h
        subst h
        simp only [Bool.and_eq_true, decide_eq_true_eq] at hg
        obtain ⟨⟨hn, hn1⟩, hn4⟩ := hg
        have o1 := sl_out hl
        have o2 := sl_out hr
        have l2 := sl_len hr
        have t1 := (slV_is hl).1.tup
        have hcl0 := C129 cGK rfl ps.length hn1 hn4 ⟨0, .nil⟩
        unfold ClR at hcl0
        obtain ⟨rr, hcl, hcr⟩ := hcl0
        unfold ordsR at hcr
        obtain ⟨es, hz, rfl, hzx, hel⟩ := hcr
        have HEL := Lib.hid hel
        have HL := Lib.hid hl
        have HR := Lib.hid hr
        have HN := Lib.hid hn
        have HN1 := Lib.hid hn1
        have hes : es.length ≤ 256 := by
          have h1 := hel.1
          have h2 := lev_small hn4 ps.length hn4
          have h3 : 4 ^ ps.length ≤ 4 ^ 4 := Nat.pow_le_pow_right (by omega) hn4
          omega
        have HES := Lib.hid hes
        rw [← ref_match]
        generalize hres : refV (refM off hs ps) = res
        have HRES := Lib.hid hres
        clear hl hr hn hn1 hn4 hzx hel hes hres
        refine ClR.walk (c := _) rfl Tryz.func66 rfl (by kernel_rfl) rfl isRet_fail ?_
        simp only [entryEnv, Nat.reduceAdd, emptyHp]
        repeat' (first | (apply U6; exact Z1; exact Z1; (focus (exact hcl)); simp only [pM, pN, rR, rP]) | refine Y1 ?_ | refine U7 ?_ | refine U8 ?_ | refine U9 ?_ | refine Y2 ?_ | ((first | refine Y3 ?_ | refine Y8 ?_); simp only [tN, bN, eN, true_and]) | (apply U4; exact Z1; exact rfl; simp only [pM, pN, rR, rP]) | (refine J3 rfl rfl ?_ ?_; exact Z2) | (refine J4 rfl rfl ?_ ?_; exact Z2; simp only [pM, pN, rR, rP]) | (apply U3; exact rfl; exact rfl; exact Z1; refine ⟨fun hh => ?_, fun hh => ?_⟩ <;> try simp only [Bool.not_true, Bool.not_false, pM, pN] at hh ⊢) | (apply U5; exact rfl; exact Z3; simp only [pM, pN, rR, rP]) | (simp only [tP, bP, eP, true_and]) | (refine Y7 ?_; simp only [tR, bR, eR, true_and]) | (refine Y9 ?_; simp only [tX, bS, bO, Nat.reduceBEq, tN, bN]) | (refine Y4 ?_ ?_; exact Z2) | (refine Y5 ?_ ?_; exact Z2) | (apply Y6; exact Z1; refine ⟨fun hh => ?_, fun hh => ?_⟩))
        refine W.loopN 8 (fun t F => ∃ e lm, F = Fr.mk 66 false e lm hz [] none ∧ (∀ u : Nat, u < t → (lev ps.length ps.length).find? (accB off hs ps (u : Nat)) = none) ∧ lm.get 2 = some (0, [ca, .int .i64 off]) ∧ e.get 1 = some la ∧ e.get 2 = some (.lptr 2 0 0) ∧ e.get 6 = some (.vslice es) ∧ e.get 7 = some (.int .i64 ↑t) ∧ t ≤ 8) ?_ ?_
        · refine ⟨_, _, rfl, fun j hj => absurd hj (by omega), ?_, ?_, ?_, ?_, ?_, ?_⟩ <;> first | exact Z2 | simp [go_sem, *]
        clear hcl
        rintro t F ⟨e, lm, rfl, hno, m2, h1, h2, h6, h7, ht⟩
        have HNO := Lib.hid hno
        clear hno
        by_cases ht8 : t < 8
        · have hd : decide ((t : Int) < 8) = true := by simp; omega
          have hw := wrap_succ (m := 8) ht8 (by unfold maxL; omega)
          repeat' (first | refine Y1 ?_ | refine U7 ?_ | refine U8 ?_ | refine U9 ?_ | refine Y2 ?_ | ((first | refine Y3 ?_ | refine Y8 ?_); simp only [tN, bN, eN, true_and]) | (apply U4; exact Z1; exact rfl; simp only [pM, pN, rR, rP]) | (refine J3 rfl rfl ?_ ?_; exact Z2) | (refine J4 rfl rfl ?_ ?_; exact Z2; simp only [pM, pN, rR, rP]) | (apply U3; exact rfl; exact rfl; exact Z1; refine ⟨fun hh => ?_, fun hh => ?_⟩ <;> try simp only [Bool.not_true, Bool.not_false, pM, pN] at hh ⊢) | (apply U5; exact rfl; exact Z3; simp only [pM, pN, rR, rP]) | (simp only [tP, bP, eP, true_and]) | (refine Y7 ?_; simp only [tR, bR, eR, true_and]) | (refine Y9 ?_; simp only [tX, bS, bO, Nat.reduceBEq, tN, bN]) | (refine Y4 ?_ ?_; exact Z2) | (refine Y5 ?_ ?_; exact Z2) | (apply Y6; exact Z1; refine ⟨fun hh => ?_, fun hh => ?_⟩))
          refine W.loopN es.length (fun k F => ∃ e lm, F = Fr.mk 66 false e lm hz [] none ∧ (∀ (j : Nat) (q : List Nat), j < k → (lev ps.length ps.length)[j]? = some q → accB off hs ps (t : Nat) q = false) ∧ lm.get 2 = some (0, [ca, .int .i64 off]) ∧ e.get 1 = some la ∧ e.get 2 = some (.lptr 2 0 0) ∧ e.get 6 = some (.vslice es) ∧ e.get 7 = some (.int .i64 ↑t) ∧ e.get 8 = some (.int .i64 ↑k) ∧ k ≤ es.length) ?_ ?_
          · refine ⟨_, _, rfl, fun j q hj => absurd hj (by omega), ?_, ?_, ?_, ?_, ?_, ?_, ?_⟩ <;> first | exact Z2 | simp [go_sem, *]
          clear m2 h1 h2 h6 h7 hd
          rintro k F ⟨e, lm, rfl, hno2, m2, h1, h2, h6, h7, h8, hk⟩
          have HNO2 := Lib.hid hno2
          clear hno2
          by_cases hkl : k < es.length
          · have hd : decide ((k : Int) < (es.length : Int)) = true := by simpa using hkl
            have hw2 := wrap_succ (m := es.length) hkl (by have := HES.out; unfold maxL; omega)
            obtain ⟨r, hr⟩ := get_some hkl
            obtain ⟨p, hp⟩ := get_some (show k < (lev ps.length ps.length).length by rw [← HEL.out.1]; exact hkl)
            have hBr : Blt hz r 1 (natsV p) := HEL.out.2 k r p hr hp
            have hpm := List.mem_of_getElem? hp
            have hord : IsOrd ps.length p := ⟨lev_len _ p hpm, (lev_ord (p := p) _ p hpm).2, (lev_ord (p := p) _ p hpm).1⟩
            have hix : indexAddrV Tryz.prog hz 194 (.vslice es) (.int .i64 ↑k) = some (.vptr [r]) := by
              have : idxV (.int .i64 (k : Int)) es.length = some k := by simp [idxV, hkl]
              simp only [indexAddrV, Tryz.underlying194, ty_lay39, this, hr, hBr.cells, List.length_cons, List.length_nil, Nat.zero_add, if_true]
            have cr := hBr.cells
            have orr := hBr.out
            have tr := hBr.tup
            have k131 := K131 (X := dX cGK) rfl la r ca hs ps t off p HR.out HL.out ht8 HN.out hord hz hBr
            simp only [AV.cells] at cr
            simp only [isTuple] at tr
            have HP := Lib.hid hp
            have HB := Lib.hid hBr
            have HORD := Lib.hid hord
            clear hr hp hBr hpm hord
            cases hac : accB off hs ps (t : Nat) p with
            | false =>
              rw [hac] at k131
              have HAC := Lib.hid hac
              clear hac
              repeat' (first | (apply W.drawQ (id := 8) (l1 := [0, 1, 2, 3, 4, 5, 6, 7, 8, 9, 10]) (l2 := []); kernel_rfl; kernel_rfl; kernel_rfl; exact Z4) | (apply W.drawQ (id := 9) (l1 := [0, 1, 2, 3, 4, 5, 6]) (l2 := []); kernel_rfl; kernel_rfl; kernel_rfl; exact Z4) | (refine ⟨⟨trivial, trivial⟩, ?_⟩) | (refine ⟨⟨rfl, rfl⟩, ?_⟩) | (refine Z5 rfl rfl ?_) | (refine Z8 rfl rfl ?_) | (refine Z6 ?_) | (refine Z9 ?_; simp only [tN, bN, eN, true_and]) | (apply Z7; exact rfl; exact rfl; exact Z1; simp only [pM, pN]) | refine Y1 ?_ | refine U7 ?_ | refine U8 ?_ | refine U9 ?_ | refine Y2 ?_ | ((first | refine Y3 ?_ | refine Y8 ?_); simp only [tN, bN, eN, true_and]) | (apply U4; exact Z1; exact rfl; simp only [pM, pN, rR, rP]) | (refine J3 rfl rfl ?_ ?_; exact Z2) | (refine J4 rfl rfl ?_ ?_; exact Z2; simp only [pM, pN, rR, rP]) | (apply U3; exact rfl; exact rfl; exact Z1; refine ⟨fun hh => ?_, fun hh => ?_⟩ <;> try simp only [Bool.not_true, Bool.not_false, pM, pN] at hh ⊢) | (apply U6; exact Z1; exact Z1; (focus (simp only [List.nil_append, List.append_nil]; first | exact k131)); simp only [pM, pN, rR, rP]) | (apply U5; exact rfl; exact Z3; simp only [pM, pN, rR, rP]) | (simp only [tP, bP, eP, true_and]) | (refine Y7 ?_; simp only [tR, bR, eR, true_and]) | (refine Y9 ?_; simp only [tX, bS, bO, Nat.reduceBEq, tN, bN]) | (refine Y4 ?_ ?_; exact Z2) | (refine Y5 ?_ ?_; exact Z2) | (apply Y6; exact Z1; refine ⟨fun hh => ?_, fun hh => ?_⟩))
              refine ⟨hkl, _, _, rfl, fun j q hj hq => ?_, ?_, ?_, ?_, ?_, ?_, ?_, by omega⟩
              · rcases Nat.lt_or_ge j k with c | c
                · exact HNO2.out j q c hq
                · obtain rfl : j = k := by omega
                  have := HP.out.symm.trans hq
                  cases this
                  exact HAC.out
              all_goals exact Z2
            | true =>
              rw [hac] at k131
              have HF := Lib.hid (find_at HP.out HNO2.out hac)
              have hfz : ∃ h', frz2 hz r = some (slN (natsV p), h') := by
                obtain ⟨h', _, f2, _⟩ := HB.out.freeze
                exact ⟨h', f2⟩
              obtain ⟨h', hfz⟩ := hfz
              clear hac
              repeat' (first | (apply W.drawQ (id := 8) (l1 := [0, 1, 2, 3, 4, 5, 6, 7, 8, 9, 10]) (l2 := []); kernel_rfl; kernel_rfl; kernel_rfl; exact Z4) | (apply W.drawQ (id := 9) (l1 := [0, 1, 2, 3, 4, 5, 6]) (l2 := []); kernel_rfl; kernel_rfl; kernel_rfl; exact Z4) | (refine ⟨⟨trivial, trivial⟩, ?_⟩) | (refine ⟨⟨rfl, rfl⟩, ?_⟩) | (refine Z5 rfl rfl ?_) | (refine Z8 rfl rfl ?_) | (refine Z6 ?_) | (refine Z9 ?_; simp only [tN, bN, eN, true_and]) | (apply Z7; exact rfl; exact rfl; exact Z1; simp only [pM, pN]) | refine Y1 ?_ | refine U7 ?_ | refine U8 ?_ | refine U9 ?_ | refine Y2 ?_ | ((first | refine Y3 ?_ | refine Y8 ?_); simp only [tN, bN, eN, true_and]) | (apply U4; exact Z1; exact rfl; simp only [pM, pN, rR, rP]) | (refine J3 rfl rfl ?_ ?_; exact Z2) | (refine J4 rfl rfl ?_ ?_; exact Z2; simp only [pM, pN, rR, rP]) | (apply U3; exact rfl; exact rfl; exact Z1; refine ⟨fun hh => ?_, fun hh => ?_⟩ <;> try simp only [Bool.not_true, Bool.not_false, pM, pN] at hh ⊢) | (apply U6; exact Z1; exact Z1; (focus (simp only [List.nil_append, List.append_nil]; first | exact k131)); simp only [pM, pN, rR, rP]) | (apply U5; exact rfl; exact Z3; simp only [pM, pN, rR, rP]) | (simp only [tP, bP, eP, true_and]) | (refine Y7 ?_; simp only [tR, bR, eR, true_and]) | (refine Y9 ?_; simp only [tX, bS, bO, Nat.reduceBEq, tN, bN]) | (refine Y4 ?_ ?_; exact Z2) | (refine Y5 ?_ ?_; exact Z2) | (apply Y6; exact Z1; refine ⟨fun hh => ?_, fun hh => ?_⟩))
              all_goals simp only [resV_def (X := dX cGK) Tryz.func66, Tryz.results66, resultsV, resultV, go_sem, *, Nat.reduceLT, Int.reduceEq, Int.reduceBEq, Int.reduceLE, Int.reduceLT, Nat.reduceAdd, Nat.reduceBEq, Nat.reduceEqDiff, reduceIte, Nat.reduceLeDiff, Nat.reduceMul, Nat.reduceSub, reduceCtorEq, frzRes, dFrz, frzCells, isRet_ret, tupleOf]
              have hs2 : refM off hs ps = some (t, p) := find_some (fun j hj => by rw [HNO.out j hj]; rfl) (by rw [HF.out]; rfl) ht8
              rw [← HRES.out, hs2]
              rfl
          · have hd : decide ((k : Int) < (es.length : Int)) = false := by simpa using hkl
            have HF := Lib.hid (find_no (l := lev ps.length ps.length) (f := accB off hs ps (t : Nat)) fun j q hq => HNO2.out j q (by
              have h1 := HEL.out.1
              have h2 : j < (lev ps.length ps.length).length := by
                rcases Nat.lt_or_ge j (lev ps.length ps.length).length with c | c
                · exact c
                · rw [List.getElem?_eq_none c] at hq; cases hq
              omega) hq)
            clear hkl hk
            repeat' (first | (refine ⟨⟨trivial, trivial⟩, ?_⟩) | (refine ⟨⟨rfl, rfl⟩, ?_⟩) | (refine Z5 rfl rfl ?_) | (refine Z8 rfl rfl ?_) | (refine Z6 ?_) | (refine Z9 ?_; simp only [tN, bN, eN, true_and]) | (apply Z7; exact rfl; exact rfl; exact Z1; simp only [pM, pN]) | refine Y1 ?_ | refine U7 ?_ | refine U8 ?_ | refine U9 ?_ | refine Y2 ?_ | ((first | refine Y3 ?_ | refine Y8 ?_); simp only [tN, bN, eN, true_and]) | (apply U4; exact Z1; exact rfl; simp only [pM, pN, rR, rP]) | (refine J3 rfl rfl ?_ ?_; exact Z2) | (refine J4 rfl rfl ?_ ?_; exact Z2; simp only [pM, pN, rR, rP]) | (apply U3; exact rfl; exact rfl; exact Z1; refine ⟨fun hh => ?_, fun hh => ?_⟩ <;> try simp only [Bool.not_true, Bool.not_false, pM, pN] at hh ⊢) | (apply U5; exact rfl; exact Z3; simp only [pM, pN, rR, rP]) | (simp only [tP, bP, eP, true_and]) | (refine Y7 ?_; simp only [tR, bR, eR, true_and]) | (refine Y9 ?_; simp only [tX, bS, bO, Nat.reduceBEq, tN, bN]) | (refine Y4 ?_ ?_; exact Z2) | (refine Y5 ?_ ?_; exact Z2) | (apply Y6; exact Z1; refine ⟨fun hh => ?_, fun hh => ?_⟩))
            refine ⟨ht8, _, _, rfl, fun u hu => ?_, ?_, ?_, ?_, ?_, ?_, by omega⟩
            · rcases Nat.lt_or_ge u t with c | c
              · exact HNO.out u c
              · obtain rfl : u = t := by omega
                exact HF.out
            all_goals exact Z2
        · have hd : decide ((t : Int) < 8) = false := by simp; omega
          have HT := Lib.hid (show t = 8 by omega)
          clear ht8 ht
          repeat' (first | (refine ⟨⟨trivial, trivial⟩, ?_⟩) | (refine ⟨⟨rfl, rfl⟩, ?_⟩) | (refine Z5 rfl rfl ?_) | (refine Z8 rfl rfl ?_) | (refine Z6 ?_) | (refine Z9 ?_; simp only [tN, bN, eN, true_and]) | (apply Z7; exact rfl; exact rfl; exact Z1; simp only [pM, pN]) | refine Y1 ?_ | refine U7 ?_ | refine U8 ?_ | refine U9 ?_ | refine Y2 ?_ | ((first | refine Y3 ?_ | refine Y8 ?_); simp only [tN, bN, eN, true_and]) | (apply U4; exact Z1; exact rfl; simp only [pM, pN, rR, rP]) | (refine J3 rfl rfl ?_ ?_; exact Z2) | (refine J4 rfl rfl ?_ ?_; exact Z2; simp only [pM, pN, rR, rP]) | (apply U3; exact rfl; exact rfl; exact Z1; refine ⟨fun hh => ?_, fun hh => ?_⟩ <;> try simp only [Bool.not_true, Bool.not_false, pM, pN] at hh ⊢) | (apply U5; exact rfl; exact Z3; simp only [pM, pN, rR, rP]) | (simp only [tP, bP, eP, true_and]) | (refine Y7 ?_; simp only [tR, bR, eR, true_and]) | (refine Y9 ?_; simp only [tX, bS, bO, Nat.reduceBEq, tN, bN]) | (refine Y4 ?_ ?_; exact Z2) | (refine Y5 ?_ ?_; exact Z2) | (apply Y6; exact Z1; refine ⟨fun hh => ?_, fun hh => ?_⟩))
          all_goals simp only [resV_def (X := dX cGK) Tryz.func66, Tryz.results66, resultsV, resultV, go_sem, *, Nat.reduceLT, Int.reduceEq, Int.reduceBEq, Int.reduceLE, Int.reduceLT, Nat.reduceAdd, Nat.reduceBEq, Nat.reduceEqDiff, reduceIte, Nat.reduceLeDiff, Nat.reduceMul, Nat.reduceSub, reduceCtorEq, frzRes, dFrz, frzCells, isRet_ret, tupleOf]
          have hs2 : refM off hs ps = none := find_none fun j hj => by
            rw [HNO.out j (by have := HT.out; omega)]
            rfl
          rw [← HRES.out, hs2]
          rfl
      · cases h
    · cases h
  · cases h
end Go.AM
