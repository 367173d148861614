/-
  A part of the proof: contracts of functions.
-/
import Derived.Test.YtkpbdjpekjdhcaaGreatDoorXAF
import Derived.Test.YtkpbdjpekjdhcaaGreatDoorXAD
set_option linter.unusedSectionVars false
set_option linter.unusedVariables false
set_option linter.unusedSimpArgs false
namespace Go.AM
open Go
variable [Keep]
def newRes (h : Heap) (sz : Nat) (el rest : List AV) : AV × Heap :=
 if el.isEmpty then (.tuple (.nilslice :: rest), h) else (.tuple (.row h.next 0 el.length :: rest), h.new (.rw sz el))
def newFn (sz : Nat) (spec : List AV -> Option (List AV × List AV)) : List AV -> Heap -> Option (AV × Heap) := fun args h => match viewDs h args with
 | some l => (match spec l with | some (el, rest) => some (newRes h sz el rest) | none => none)
 | none => none
theorem BR.flat {C D : Cfg} {w w' : World} {L : Loc} {sz : Nat} {el : List AV} (h : BR C w L (.rw sz el)) (hf : ∀ e ∈ el, ∀ x ∈ e.cells, x.flat = true) (e : w'.heap[L.b]? = w.heap[L.b]?) : BR D w' L (.rw sz el) := by
 obtain ⟨c, h1, h2, h3, h4, h5⟩ := h
 refine ⟨c, h1.same e, h2, h3, h4, fun i x hx => ?_⟩
 obtain ⟨k1, k2, k3⟩ := h5 i x hx
 refine ⟨k1, k2, fun j y hy => ?_⟩
 obtain ⟨v, hv, hr⟩ := k3 j y hy
 exact ⟨v, hv, hr.flat (hf x (List.mem_of_getElem? hx) y (List.mem_of_getElem? hy))⟩
variable {C : Cfg} {h : Heap} {w : World}
theorem newRes_is (h : Heap) (sz : Nat) (el rest : List AV) : ∃ v h', newRes h sz el rest = (.tuple (v :: rest), h') /\ Blt h' v sz el /\ h.next <= h'.next /\ ∀ id, id < h.next -> h'.get id = h.get id := by
 unfold newRes
 cases el with
 | nil => exact ⟨.nilslice, h, rfl, .inl ⟨rfl, rfl⟩, Nat.le_refl _, fun _ _ => rfl⟩
 | cons a r =>
  refine ⟨.row h.next 0 (a :: r).length, h.new (.rw sz (a :: r)), rfl, .inr ⟨h.next, rfl, by rw [Heap.get_new, if_pos rfl], Nat.lt_succ_self _, by simp⟩, Nat.le_succ _, fun id hid => ?_⟩
  rw [Heap.get_new, if_neg (by omega)]
theorem Cl.new {X : Ctx} {f : FuncId} {sz : Nat} {spec : List AV -> Option (List AV × List AV)} {args l el rest : List AV} {h : Heap} (hX : X.intr f = some (newFn sz spec)) (hv : viewDs h args = some l) (hs : spec l = some (el, rest)) :
  ∃ v h', Cl X f args h (.ret (.tuple (v :: rest)) h' none) /\ Blt h' v sz el /\ h.next <= h'.next /\ ∀ id, id < h.next -> h'.get id = h.get id := by
 obtain ⟨v, h', e, hb, hx⟩ := newRes_is h sz el rest
 exact ⟨v, h', Cl.intr hX (by simp [newFn, hv, hs, e]), hb, hx⟩
end Go.AM
namespace Go.AM
open Go
variable [Keep]
structure Wrap (w : AV -> AV) : Prop where
 vr : ∀ {C D : Cfg} {a b : AV} {u : Value}, VR C (w a) u -> b.one = true -> (∀ v, VR C a v -> VR D b v) -> VR D (w b) u
variable {C : Cfg} {h : Heap} {w : World}
end Go.AM
namespace Go.AM
open Go
variable [Keep]
variable {C : Cfg} {h : Heap} {w : World}
end Go.AM
namespace Go.AM
open Go
variable [Keep]
inductive Frz (h : Heap) : AV -> AV -> Prop
 | flat {a : AV} : a.flat = true -> Frz h a a
 | row {id sz : Nat} {el el' : List AV} : h.get id = some (.rw sz el) -> el ≠ [] -> el.length = el'.length -> (∀ e ∈ el', e.cells.length = sz) -> (∀ e ∈ el', ∀ c ∈ e.cells, c.one = true) ->
   (∀ i j, i < el.length -> j < sz -> Frz h ((el.getD i .junk).cells.getD j .junk) ((el'.getD i .junk).cells.getD j .junk)) -> Frz h (.row id 0 el.length) (.vslice el')
 | agg {l m : List AV} : l.length = m.length -> (∀ i, i < l.length -> Frz h (l.getD i .junk) (m.getD i .junk)) -> (∀ x ∈ m, x.one = true) -> Frz h (.agg l) (.agg m)
 | tuple {l m : List AV} : l.length = m.length -> (∀ i, i < l.length -> Frz h (l.getD i .junk) (m.getD i .junk)) -> Frz h (.tuple l) (.tuple m)
def newQ (spec : List AV -> Option AV) : List AV -> Heap -> Option (AV × Heap) := fun args h => match viewDs h args with
 | some l => (match spec l with | some v => some (v, h) | none => none)
 | none => none
variable {C : Cfg} {h : Heap} {w : World}
theorem newQ_intr1 {X : Ctx} (s : Sound X) {f : FuncId} {spec : List AV -> Option AV}
  (hr : ∀ args v, spec args = some v -> ∃ u h' n, callF X (ev X n) f args emptyHp = .ret u h' none /\ Frz h' u v) : IntrFn X.P f (newQ spec) := by
 intro args h v h' hg C w vs r hv
 unfold newQ at hg
 split at hg
 ·rename_i l hl
  split at hg
  ·rename_i v0 hsp
   cases hg
   obtain ⟨u0, h1, n, hcall, hb⟩ := hr l _ hsp
   obtain ⟨p1, p2⟩ := viewDs_ok r hv hl
   have hok := s.call n f l emptyHp ⟨fun _ => none, w.cell?⟩ w vs ⟨fun _ _ h => h, fun id blk e => by simp [emptyHp, Heap.get] at e, fun id id' blk blk' L L' e => by simp [emptyHp, Heap.get] at e, fun id blk L x v e => by simp [emptyHp, Heap.get] at e, fun id L e => (by cases e), r.base.on r.sig (fun _ _ _ => rfl)⟩ p2 (by rw [hcall]; intro e; cases e)
   refine ⟨hok.1, fun cs => ?_⟩
   have := hok.2 cs
   rw [hcall] at this
   obtain ⟨C', w', fr, u, q1, q2, q3, q4, q5, q6⟩ := this
   have hsame : ∀ β, β < w.heap.size -> w'.heap[β]? = w.heap[β]? := fun β hb => q6.same β hb emptyHp_live id
   have hsg : ∀ x u, C.sig x = some u -> w'.cell? x = some u := fun x u e => by
    have h1 := r.sig x u e
    have hb := WR.sig_lt (F := Fr.mk 0 false .nil .nil h [] none) r e
    unfold World.cell? at h1 ⊢
    rw [hsame _ hb]
    exact h1
   have hbase : Base C w' := r.base.on (fun _ _ e => e) (fun x v e => hsame _ (WR.sig_lt (F := Fr.mk 0 false .nil .nil h [] none) r e))
   let D : Cfg := ⟨C.mu, fun x => if w.heap.size <= x.block then w'.cell? x else C.sig x⟩
   have hDs : ∀ x v, C.sig x = some v -> D.sig x = some v := fun x v e => by
    have hb := WR.sig_lt (F := Fr.mk 0 false .nil .nil h [] none) r e
    show (if w.heap.size <= x.block then w'.cell? x else C.sig x) = some v
    rw [if_neg (by omega)]; exact e
   have hD : C.le D := ⟨fun _ _ e => e, hDs⟩
   have lb : ∀ id blk L', h.get id = some blk -> C.mu id = some L' -> L'.b < w.heap.size := fun id blk L' e1 e2 => by
    obtain ⟨L2, k1, k2⟩ := r.blk id blk e1
    rw [e2] at k1; cases k1
    exact k2.lt
   have hfz : ∀ {a b : AV}, Frz h1 a b -> ∀ {u : Value}, VR C' a u -> VR D b u := by
    intro a b hab
    induction hab with
    | flat hf => intro u q; exact q.flat hf
    | @row id0 sz el el' hrow hne hlen' hcl hone _ ih =>
     intro u q
     obtain ⟨L, m1, m2⟩ := q5.blk id0 _ hrow
     have hnew : w.heap.size <= L.b := by
      rcases Nat.lt_or_ge L.b w.heap.size with q | q
      ·exfalso
       rcases q6.live L.b q ⟨id0, _, L, hrow, m1, rfl⟩ with k | k
       ·exact emptyHp_live k
       ·exact k
      ·exact q
     obtain ⟨c, hc, hsz, htot, hlen, hel⟩ := m2
     cases q with
     | row a h1 h2 h3 h4 =>
      rw [m1] at h1
      cases h1
      rename_i cap
      have hl0 : 0 < el.length := List.length_pos_iff.2 hne
      rcases h3 with h3 | h3
      ·omega
      ·subst h3
       simp only [Nat.zero_mul, Nat.add_zero]
       have hin : ∀ i j, i < el.length -> j < sz -> ∃ v, c[L.o + i * sz + j]? = some v /\ VR C' ((el.getD i .junk).cells.getD j .junk) v := fun i j hi hj => by
        have hei : el[i]? = some (el.getD i .junk) := by simp [List.getD, hi]
        obtain ⟨k1, k2, k3⟩ := hel i _ hei
        have hjl : j < (el.getD i .junk).cells.length := by rw [k1]; exact hj
        obtain ⟨v, k4, k5⟩ := k3 j _ (List.getElem?_eq_getElem hjl)
        refine ⟨v, k4, ?_⟩
        have hgd : (el.getD i .junk).cells.getD j .junk = (el.getD i .junk).cells[j] := by rw [List.getD, List.getElem?_eq_getElem hjl]; rfl
        rw [hgd]
        exact k5
       rw [hlen'] at h2 ⊢
       refine .vslice (sz := sz) (fun i j => (c[L.o + i * sz + j]?).getD undef) h2 hcl (fun i j hi hj => ?_) (fun i j hi hj => ?_) hone
       ·obtain ⟨v, k4, _⟩ := hin i j (by omega) hj
        show (if w.heap.size <= L.b then w'.cell? ⟨L.b, L.o + i * sz + j, none⟩ else _) = _
        rw [if_pos hnew, hc.cell, k4]
        rfl
       ·obtain ⟨v, k4, k5⟩ := hin i j (by omega) hj
        rw [k4]
        exact ih i j (by omega) hj k5
    | agg hlen _ hone ih =>
     intro u q
     cases q with
     | agg h1 h2 h3 => exact .agg (h1.trans hlen) (fun i hi => ih i (by omega) (h2 i (by omega))) hone
    | tuple hlen _ ih =>
     intro u q
     cases q with
     | tuple h1 h2 => exact .tuple (h1.trans hlen) (fun i hi => ih i (by omega) (h2 i (by omega)))
   refine ⟨D, w', fr, u, q1, q2, q3, hfz hb q4, ⟨fun x v e => ?_, fun id blk e => ?_, r.inj, fun id blk L1 x v e k ks => ?_, r.fresh, hbase.on hDs (fun _ _ _ => rfl)⟩, ?_⟩
   ·by_cases hb : w.heap.size <= x.block
    ·have e : (if w.heap.size <= x.block then w'.cell? x else C.sig x) = some v := e
     rw [if_pos hb] at e
     exact e
    ·have e : (if w.heap.size <= x.block then w'.cell? x else C.sig x) = some v := e
     rw [if_neg hb] at e
     exact hsg _ _ e
   ·obtain ⟨L', k1, k2⟩ := r.blk id blk e
    exact ⟨L', k1, k2.same hD (hsame _ k2.lt)⟩
   ·have hl1 := lb _ _ _ e k
    by_cases hb : w.heap.size <= x.block
    ·omega
    ·have ks : (if w.heap.size <= x.block then w'.cell? x else C.sig x) = some v := ks
     rw [if_neg hb] at ks
     exact r.apart _ _ _ _ _ e k ks
   ·refine { le := hD, os := q6.os, tape := q6.tape, output := q6.output, size := q6.size, same := fun β hb _ _ => hsame β hb, live := fun β hb l => .inl l, own := fun _ _ o => o.elim, sig := fun x u hb e => .inl ?_, next := Nat.le_refl _ }
    have e : (if w.heap.size <= x.block then w'.cell? x else C.sig x) = some u := e
    rw [if_neg (by omega)] at e
    exact e
  ·cases hg
 ·cases hg
theorem newQ_intr {X : Ctx} (s : Sound X) {f : FuncId} {spec : List AV -> Option AV}
  (hr : ∀ args v, spec args = some v -> ∃ u h', Cl X f args emptyHp (.ret u h' none) /\ Frz h' u v) : IntrFn X.P f (newQ spec) :=
 newQ_intr1 s fun args v e => by
  obtain ⟨u, h', ⟨n, hn⟩, hb⟩ := hr args v e
  exact ⟨u, h', n, hn n (Nat.le_refl _), hb⟩
def isQ (v : AV) (r : COut) : Prop := ∃ u h', r = .ret u h' none /\ Frz h' u v
theorem isQ_fail {v : AV} : ¬ isQ v .fail := by rintro ⟨_, _, e, _⟩; cases e
theorem isQ_ret {v u : AV} {h : Heap} (f : Frz h u v) : isQ v (.ret u h none) := ⟨u, h, rfl, f⟩
theorem newQ_fn {X : Ctx} (s : Sound X) {f : FuncId} {spec : List AV -> Option AV}
  (hr : ∀ args v, spec args = some v -> ClR X f args emptyHp (isQ v)) : IntrFn X.P f (newQ spec) :=
 newQ_intr s fun args v h => by
  obtain ⟨r, h1, u, h2, rfl, h3⟩ := hr args v h
  exact ⟨_, _, h1, h3⟩
theorem Cl.newQ {X : Ctx} {f : FuncId} {spec : List AV -> Option AV} {args l : List AV} {v : AV} {h : Heap} (hX : X.intr f = some (newQ spec)) (hv : viewDs h args = some l) (hs : spec l = some v) :
  Cl X f args h (.ret v h none) := Cl.intr hX (by simp [AM.newQ, hv, hs])
theorem Frz.flats {h : Heap} {id sz : Nat} {el : List AV} (hg : h.get id = some (.rw sz el)) (hne : el ≠ []) (hs : ∀ e ∈ el, e.cells.length = sz) (hf : ∀ e ∈ el, ∀ x ∈ e.cells, x.flat = true /\ x.one = true) : Frz h (.row id 0 el.length) (.vslice el) := by
 refine .row hg hne rfl hs (fun e he c hc => (hf e he c hc).2) (fun i j hi hj => ?_)
 have hei : el.getD i .junk ∈ el := by rw [List.getD, List.getElem?_eq_getElem hi]; exact List.getElem_mem hi
 have hjl : j < (el.getD i .junk).cells.length := by rw [hs _ hei]; exact hj
 have hgd : (el.getD i .junk).cells.getD j .junk ∈ (el.getD i .junk).cells := by
  generalize (el.getD i .junk).cells = cs at *
  rw [List.getD, List.getElem?_eq_getElem hjl]
  exact List.getElem_mem hjl
 exact .flat (hf _ hei _ hgd).1
theorem Blt.frz {h' : Heap} {v : AV} {sz : Nat} {el : List AV} (b : Blt h' v sz el) (hs : ∀ e ∈ el, e.cells.length = sz) (hf : ∀ e ∈ el, ∀ x ∈ e.cells, x.flat = true /\ x.one = true) : Frz h' v (slN el) := by
 rcases b with ⟨rfl, rfl⟩ | ⟨id, rfl, h1, h2, h3⟩
 ·exact .flat rfl
 ·cases el with
  | nil => exact absurd rfl h3
  | cons a l => exact .flats h1 h3 hs hf
theorem Blt.frz2D {h' : Heap} {v : AV} {el : List AV} {ls : List (List AV)} (b : Blt h' v 1 el) (hl : el.length = ls.length) (hin : ∀ i, i < el.length -> Frz h' (el.getD i .junk) (slN (ls.getD i []))) (ho : ∀ e ∈ el, e.cells = [e]) : Frz h' v (slN (ls.map slN)) := by
 have hcell : ∀ l : List AV, (slN l).cells = [slN l] /\ (slN l).one = true := fun l => by cases l <;> exact ⟨rfl, rfl⟩
 rcases b with ⟨rfl, rfl⟩ | ⟨id, rfl, h1, h2, h3⟩
 ·have : ls = [] := List.eq_nil_of_length_eq_zero (by rw [<- hl]; rfl)
  subst this
  exact .flat rfl
 ·have hsn : slN (ls.map slN) = .vslice (ls.map slN) := by
   cases ls with
   | nil => exact absurd (List.eq_nil_of_length_eq_zero (by rw [hl]; rfl)) h3
   | cons a r => rfl
  rw [hsn]
  refine .row h1 h3 (by rw [List.length_map]; exact hl) (fun e he => ?_) (fun e he c hc => ?_) (fun i j hi hj => ?_)
  ·obtain ⟨l, _, rfl⟩ := List.mem_map.1 he
   rw [(hcell l).1]; rfl
  ·obtain ⟨l, _, rfl⟩ := List.mem_map.1 he
   rw [(hcell l).1] at hc
   rcases List.mem_singleton.1 hc with rfl
   exact (hcell l).2
  ·have hj0 : j = 0 := by omega
   subst hj0
   have hei : el.getD i .junk ∈ el := by rw [List.getD, List.getElem?_eq_getElem hi]; exact List.getElem_mem hi
   have e1 : (el.getD i .junk).cells.getD 0 .junk = el.getD i .junk := by rw [ho _ hei]; rfl
   have e2 : (ls.map slN).getD i .junk = slN (ls.getD i []) := by simp [List.getD, hl ▸ hi]
   rw [e1, e2, (hcell _).1]
   exact hin i hi
end Go.AM
namespace Go.AM
open Go
variable [Keep]
inductive FrzP (h : Heap) : AV -> AV -> Prop
 | pur {a : AV} : a.pur = true -> FrzP h a a
 | row {id sz : Nat} {el el' : List AV} : h.get id = some (.rw sz el) -> el ≠ [] -> el.length = el'.length -> (∀ e ∈ el', e.cells.length = sz) -> (∀ e ∈ el', ∀ c ∈ e.cells, c.one = true) ->
   (∀ i j, i < el.length -> j < sz -> FrzP h ((el.getD i .junk).cells.getD j .junk) ((el'.getD i .junk).cells.getD j .junk)) -> FrzP h (.row id 0 el.length) (.vslice el')
 | agg {l m : List AV} : l.length = m.length -> (∀ i, i < l.length -> FrzP h (l.getD i .junk) (m.getD i .junk)) -> (∀ x ∈ m, x.one = true) -> FrzP h (.agg l) (.agg m)
 | tuple {l m : List AV} : l.length = m.length -> (∀ i, i < l.length -> FrzP h (l.getD i .junk) (m.getD i .junk)) -> FrzP h (.tuple l) (.tuple m)
variable {C : Cfg} {h : Heap} {w : World}
end Go.AM
namespace Go.AM
open Go
variable [Keep]
def pairsSame : List (AV × AV) -> List (AV × AV) -> Bool
 | [], [] => true
 | (a, b) :: l, (c, d) :: r => (AV.same a c && AV.same b d) && pairsSame l r
 | _, _ => false
theorem pairsSame_eq : ∀ {l r : List (AV × AV)}, pairsSame l r = true -> l = r
 | [], [], _ => rfl
 | (a, b) :: l, (c, d) :: r, h => by
  simp only [pairsSame, Bool.and_eq_true] at h
  rw [AV.same_eq _ _ h.1.1, AV.same_eq _ _ h.1.2, pairsSame_eq h.2]
 | [], (_, _) :: _, h => by cases h
 | (_, _) :: _, [], h => by cases h
def Blk.same : Blk -> Blk -> Bool
 | .var a, .var b => AV.sameL a b
 | .rw s a, .rw t b => Nat.beq s t && AV.sameL a b
 | .mp a, .mp b => pairsSame a b
 | _, _ => false
theorem Blk.same_eq {a b : Blk} (h : Blk.same a b = true) : a = b := by
 cases a <;> cases b <;> simp only [Blk.same, Bool.and_eq_true, Bool.false_eq_true] at h
 ·rw [AV.sameL_eq _ _ h]
 ·rw [Nat.eq_of_beq_eq_true h.1, AV.sameL_eq _ _ h.2]
 ·rw [pairsSame_eq h]
def blkIs (o : Option Blk) (b : Blk) : Bool := match o with | some a => Blk.same a b | none => false
theorem blkIs_eq {o : Option Blk} {b : Blk} (h : blkIs o b = true) : o = some b := by
 unfold blkIs at h
 split at h
 ·rw [Blk.same_eq h]
 ·cases h
def partM : List (Nat × Blk) -> Mp Blk
 | [] => .nil
 | (id, b) :: r => (partM r).set id b
def partHp (N : Nat) (l : List (Nat × Blk)) : Heap := ⟨N, partM l⟩
theorem partM_mem : ∀ {l : List (Nat × Blk)} {id : Nat} {b : Blk}, (partM l).get id = some b -> (id, b) ∈ l
 | [], id, b, h => by simp [partM] at h
 | (i, c) :: r, id, b, h => by
  simp only [partM, Mp.get_set] at h
  split at h
  ·rename_i e
   cases h
   rw [<- e]
   exact .head _
  ·exact .tail _ (partM_mem h)
theorem partHp_mem {N : Nat} {l : List (Nat × Blk)} {id : Nat} {b : Blk} (h : (partHp N l).get id = some b) : (id, b) ∈ l := partM_mem h
def deltaM (m : Mp Blk) : List (Nat × Option Blk) -> Mp Blk
 | [] => m
 | (id, ob) :: r => deltaM (Mp.upd (id + 1) m id ob) r
theorem deltaM_get : ∀ {D : List (Nat × Option Blk)} {m : Mp Blk} {k : Nat} {b : Blk}, (deltaM m D).get k = some b -> (k, some b) ∈ D \/ (m.get k = some b /\ ∀ e ∈ D, e.1 ≠ k)
 | [], m, k, b, h => .inr ⟨h, fun e he => by simp at he⟩
 | (id, ob) :: r, m, k, b, h => by
  simp only [deltaM] at h
  rcases deltaM_get h with q | ⟨q1, q2⟩
  ·exact .inl (.tail _ q)
  ·rw [Mp.get_upd _ _ _ _ _ (Nat.lt_succ_self id)] at q1
   split at q1
   ·rename_i e
    subst e
    rw [q1]
    exact .inl (.head _)
   ·rename_i e
    refine .inr ⟨q1, fun x hx => ?_⟩
    rcases List.mem_cons.1 hx with rfl | hx
    ·exact e
    ·exact q2 x hx
section
variable {C : Cfg} {h : Heap} {w : World}
theorem WR.sub (r : WR C h w) {H : Heap} (hn : H.next = h.next) (hs : ∀ id b, H.get id = some b -> h.get id = some b) : WR C H w :=
 ⟨r.sig, fun id b e => r.blk id b (hs _ _ e), fun id id' b b' L L' e e' => r.inj id id' b b' L L' (hs _ _ e) (hs _ _ e'), fun id b L x v e => r.apart id b L x v (hs _ _ e), fun id L e => by rw [hn]; exact r.fresh id L e, r.base⟩
theorem WR.part (r : WR C h w) {H h1 h' : Heap} {C' : Cfg} {w' : World} (hn : H.next = h.next) (hs : ∀ id b, H.get id = some b -> h.get id = some b) (q5 : WR C' h1 w') (q6 : Ext C H (fun _ => False) w C' h1 (fun _ => False) w') (hn' : h'.next = h1.next)
  (key : ∀ id b, h'.get id = some b -> h1.get id = some b \/ (h.get id = some b /\ ∀ b', H.get id ≠ some b')) : WR C' h' w' /\ Ext C h (fun _ => False) w C' h' (fun _ => False) w' := by
 have old : ∀ id b, h.get id = some b -> ∃ L, C.mu id = some L /\ C'.mu id = some L /\ L.b < w.heap.size := fun id b e => by
  obtain ⟨L, k1, k2⟩ := r.blk id b e
  exact ⟨L, k1, q6.le.mu _ _ k1, k2.lt⟩
 have off : ∀ id b L, h.get id = some b -> (∀ b', H.get id ≠ some b') -> C.mu id = some L -> ¬ Live C H L.b := by
  rintro id b L e hno m ⟨id2, b2, L2, e2, m2, hb⟩
  have := r.inj id id2 b b2 L L2 e (hs _ _ e2) m m2 hb.symm
  subst this
  exact hno _ e2
 have mix : ∀ id b L id' b' L', h1.get id = some b -> C'.mu id = some L -> h.get id' = some b' -> (∀ c, H.get id' ≠ some c) -> C'.mu id' = some L' -> L.b ≠ L'.b := by
  intro id b L id' b' L' e m e' hno m' hb
  obtain ⟨L0, k1, k2, k3⟩ := old id' b' e'
  rw [m'] at k2
  cases k2
  rcases q6.live L'.b k3 ⟨id, b, L, e, m, hb⟩ with q | q
  ·exact off id' b' L' e' hno k1 q
  ·exact q
 have sub : ∀ β, Live C H β -> Live C h β := by
  rintro β ⟨id, b, L, e, m, hb⟩
  exact ⟨id, b, L, hs _ _ e, m, hb⟩
 refine ⟨⟨q5.sig, fun id b e => ?_, fun id id' b b' L L' e e' m m' hb => ?_, fun id b L x v e m s hx => ?_, fun id L e => by rw [hn']; exact q5.fresh id L e, q5.base⟩, ?_⟩
 ·rcases key id b e with k | ⟨k1, k2⟩
  ·exact q5.blk id b k
  ·obtain ⟨L, m1, m2⟩ := r.blk id b k1
   exact ⟨L, q6.le.mu _ _ m1, m2.same q6.le (q6.same _ m2.lt (off id b L k1 k2 m1) (fun f => f))⟩
 ·rcases key id b e with k | ⟨k1, k2⟩ <;> rcases key id' b' e' with j | ⟨j1, j2⟩
  ·exact q5.inj id id' b b' L L' k j m m' hb
  ·exact (mix id b L id' b' L' k m j1 j2 m' hb).elim
  ·exact (mix id' b' L' id b L j m' k1 k2 m hb.symm).elim
  ·obtain ⟨L1, a1, a2, _⟩ := old id b k1
   obtain ⟨L2, b1, b2, _⟩ := old id' b' j1
   rw [m] at a2
   rw [m'] at b2
   cases a2
   cases b2
   exact r.inj id id' b b' L L' k1 j1 a1 b1 hb
 ·rcases key id b e with k | ⟨k1, k2⟩
  ·exact q5.apart id b L x v k m s hx
  ·obtain ⟨L1, a1, a2, a3⟩ := old id b k1
   rw [m] at a2
   cases a2
   rcases q6.sig x v (by rw [hx]; exact a3) s with q | q | q
   ·exact r.apart id b L x v k1 a1 q hx
   ·rw [hx] at q; exact off id b L k1 k2 a1 q
   ·exact q
 ·refine { le := q6.le, os := q6.os, tape := q6.tape, output := q6.output, size := q6.size, same := fun β hb hl _ => q6.same β hb (fun l => hl (sub _ l)) id, live := fun β hb l => ?_, own := fun _ _ o => o.elim, sig := fun x u hb e => ?_, next := by rw [hn', <- hn]; exact q6.next }
  ·obtain ⟨id, b, L, e, m, hβ⟩ := l
   rcases key id b e with k | ⟨k1, k2⟩
   ·rcases q6.live β hb ⟨id, b, L, k, m, hβ⟩ with q | q
    ·exact .inl (sub _ q)
    ·exact q.elim
   ·obtain ⟨L1, a1, a2, _⟩ := old id b k1
    rw [m] at a2
    cases a2
    exact .inl ⟨id, b, L, k1, a1, hβ⟩
  ·rcases q6.sig x u hb e with q | q | q
   ·exact .inl q
   ·exact .inr (.inl (sub _ q))
   ·exact q.elim
end
structure Part where
 args : List AV
 next : Nat
 hp : List (Nat × Blk)
 v : AV
 next' : Nat
 delta : List (Nat × Option Blk)
def partChk (r : COut) (p : Part) : Bool :=
 match r with
 | .ret u h1 none => AV.same u p.v && (Nat.beq h1.next p.next' && ((p.delta.all fun e => match e.2 with | some b => blkIs (h1.get e.1) b | none => true) &&
   (p.hp.all fun e => (p.delta.any fun d => Nat.beq d.1 e.1) || blkIs (h1.get e.1) e.2)))
 | _ => false
def partGo (p : Part) (args : List AV) (h : Heap) : Option (AV × Heap) :=
 bif Nat.beq h.next p.next && (AV.sameL p.args args && p.hp.all fun e => blkIs (h.get e.1) e.2) then some (p.v, ⟨p.next', deltaM h.m p.delta⟩) else none
def partsGo : List Part -> List AV -> Heap -> Option (AV × Heap)
 | [], _, _ => none
 | p :: r, args, h => match partGo p args h with
  | some x => some x
  | none => partsGo r args h
theorem partsGo_mem {args : List AV} {h : Heap} {x : AV × Heap} : ∀ {tab : List Part}, partsGo tab args h = some x -> ∃ p ∈ tab, partGo p args h = some x
 | [], e => by cases e
 | p :: r, e => by
  simp only [partsGo] at e
  split at e
  ·rename_i y hy
   cases e
   exact ⟨p, .head _, hy⟩
  ·obtain ⟨q, h1, h2⟩ := partsGo_mem e
   exact ⟨q, .tail _ h1, h2⟩
theorem part_intr {X : Ctx} (s : Sound X) {f : FuncId} {tab : List Part} (hr : ∀ p ∈ tab, ∃ n, partChk (callF X (ev X n) f p.args (partHp p.next p.hp)) p = true) : IntrFn X.P f (partsGo tab) := by
 intro args h v h' hg C w vs r hv
 obtain ⟨p, hp, e⟩ := partsGo_mem hg
 obtain ⟨n, hn⟩ := hr p hp
 unfold partGo at e
 cases hc : (Nat.beq h.next p.next && (AV.sameL p.args args && p.hp.all fun e => blkIs (h.get e.1) e.2)) with
 | false => rw [hc] at e; cases e
 | true =>
  rw [hc] at e
  cases e
  simp only [Bool.and_eq_true, List.all_eq_true] at hc
  obtain ⟨c1, c2, c3⟩ := hc
  have hnx : h.next = p.next := Nat.eq_of_beq_eq_true c1
  have := AV.sameL_eq _ _ c2
  subst this
  have hs : ∀ id b, (partHp p.next p.hp).get id = some b -> h.get id = some b := fun id b e => blkIs_eq (c3 _ (partHp_mem e))
  unfold partChk at hn
  split at hn
  ·rename_i u h1 hret
   simp only [Bool.and_eq_true, List.all_eq_true, Bool.or_eq_true, List.any_eq_true] at hn
   obtain ⟨n1, n2, n3, n4⟩ := hn
   have hu := AV.same_eq _ _ n1
   subst hu
   have hok := s.call n f p.args (partHp p.next p.hp) C w vs (r.sub hnx.symm hs) hv (by rw [hret]; intro e; cases e)
   refine ⟨hok.1, fun cs => ?_⟩
   have := hok.2 cs
   rw [hret] at this
   obtain ⟨C', w', fr, u, q1, q2, q3, q4, q5, q6⟩ := this
   have hpt := r.part (H := partHp p.next p.hp) (h' := ⟨p.next', deltaM h.m p.delta⟩) hnx.symm hs q5 q6 (Nat.eq_of_beq_eq_true n2).symm (fun id b e => by
    rcases deltaM_get e with k | ⟨k1, k2⟩
    ·have := n3 _ k
     exact .inl (blkIs_eq this)
    ·by_cases hx : ∃ b', (partHp p.next p.hp).get id = some b'
     ·obtain ⟨b', hb'⟩ := hx
      have e2 := hs _ _ hb'
      rcases n4 _ (partHp_mem hb') with ⟨d, d1, d2⟩ | q
      ·exact absurd (Nat.eq_of_beq_eq_true d2) (k2 d d1)
      ·have k1' : h.get id = some b := k1
       rw [e2] at k1'
       cases k1'
       exact .inl (blkIs_eq q)
     ·exact .inr ⟨k1, fun b' e => hx ⟨b', e⟩⟩)
   exact ⟨C', w', fr, u, q1, q2, q3, q4, hpt.1, hpt.2⟩
  ·cases hn
def orGo (g k : List AV -> Heap -> Option (AV × Heap)) : List AV -> Heap -> Option (AV × Heap) := fun args h => match g args h with
 | some x => some x
 | none => k args h
theorem or_intr {P : Program} {f : FuncId} {g k : List AV -> Heap -> Option (AV × Heap)} (hg : IntrFn P f g) (hk : IntrFn P f k) : IntrFn P f (orGo g k) := by
 intro args h v h' e
 unfold orGo at e
 split at e
 ·rename_i x hx
  cases e
  exact hg args h v h' hx
 ·exact hk args h v h' e
end Go.AM
