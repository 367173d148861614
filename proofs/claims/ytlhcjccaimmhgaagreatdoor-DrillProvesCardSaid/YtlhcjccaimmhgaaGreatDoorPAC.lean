/-
  Texts of the proof: an evaluator of the program's code, its soundness, contracts of functions.
-/
import Derived.Test.YtlhcjccaimmhgaaGreatDoorPAB
import Derived.Laws.Append
import Derived.Laws.AppendOwn
import Derived.RangeFuncIn
set_option linter.unusedSimpArgs false
set_option linter.unusedVariables false
set_option linter.unusedSectionVars false
namespace Go.AM
open Go
variable [Keep]
section
variable {P : Program} {w w' : World} {C : Cfg} {lam : Nat → Option Nat} {ms : List Nat} {F : Fr} {b : Frame} {a : Act} {cs : List Frame}
theorem WR.turn {h h' : Heap} {C' : Cfg} {id id' : Nat} {blk blk' : Blk} {L L' : Loc} (r : WR C h w) (hle : C.le C') (hsig : C'.sig = C.sig) (hg : h.get id = some blk) (hm : C.mu id = some L)
    (hget : ∀ j bj, h'.get j = some bj → (j ≠ id' ∧ j ≠ id ∧ h.get j = some bj ∧ ∀ Lj, C'.mu j = some Lj → C.mu j = some Lj) ∨ (j = id' ∧ bj = blk'))
    (hmu : C'.mu id' = some L') (hL : L'.b = L.b) (hnext : h.next ≤ h'.next) (hfresh : ∀ j Lj, C'.mu j = some Lj → j < h'.next)
    (hs : w'.heap.size = w.heap.size) (hsame : ∀ β, β ≠ L.b → w'.heap[β]? = w.heap[β]?) (hbr : BR C' w' L' blk')
    (hos : w'.os = w.os) (htp : w'.tape = w.tape) (hout : w'.output = w.output) :
    WR C' h' w' ∧ Ext C h (fun _ => False) w C' h' (fun _ => False) w' := by
  have hlv : Live C h L.b := ⟨id, blk, L, hg, hm, rfl⟩
  have hlive : ∀ β, Live C' h' β → Live C h β := by
    rintro β ⟨j, bj, Lj, h1, h2, rfl⟩
    rcases hget j bj h1 with ⟨_, _, g1, g2⟩ | ⟨rfl, _⟩
    · exact ⟨j, bj, Lj, g1, g2 _ h2, rfl⟩
    · rw [hmu] at h2
      cases h2
      rw [hL]
      exact hlv
  constructor
  · refine ⟨fun x v h => ?_, fun j bj h => ?_, fun j1 j2 b1 b2 L1 L2 h1 h2 h3 h4 h5 => ?_, fun j bj Lj x v h1 h2 h3 => ?_, hfresh, r.base.on hle.sig (fun x v e => hsame _ (r.apart id blk L x v hg hm e))⟩
    · rw [hsig] at h
      have hne : x.block ≠ L.b := r.apart id blk L x v hg hm h
      have := r.sig x v h
      unfold World.cell? at this ⊢
      rw [hsame _ hne]
      exact this
    · rcases hget j bj h with ⟨_, g0, g1, g2⟩ | ⟨rfl, rfl⟩
      · obtain ⟨Lj, k1, k2⟩ := r.blk j bj g1
        refine ⟨Lj, hle.mu _ _ k1, k2.same hle (hsame _ fun e => g0 (r.inj j id bj blk Lj L g1 hg k1 hm e))⟩
      · exact ⟨L', hmu, hbr⟩
    · rcases hget j1 b1 h1 with ⟨_, k0, k1, k2⟩ | ⟨rfl, _⟩ <;> rcases hget j2 b2 h2 with ⟨_, m0, m1, m2⟩ | ⟨rfl, _⟩
      · exact r.inj j1 j2 b1 b2 L1 L2 k1 m1 (k2 _ h3) (m2 _ h4) h5
      · rw [hmu] at h4
        cases h4
        exact absurd (r.inj j1 id b1 blk L1 L k1 hg (k2 _ h3) hm (h5.trans hL)) k0
      · rw [hmu] at h3
        cases h3
        exact absurd (r.inj j2 id b2 blk L2 L m1 hg (m2 _ h4) hm (h5.symm.trans hL)) m0
      · rfl
    · rw [hsig] at h3
      rcases hget j bj h1 with ⟨_, _, g1, g2⟩ | ⟨rfl, _⟩
      · exact r.apart j bj Lj x v g1 (g2 _ h2) h3
      · rw [hmu] at h2
        cases h2
        rw [hL]
        exact r.apart id blk L x v hg hm h3
  · exact { le := hle, os := hos, tape := htp, output := hout, size := by omega, same := fun β hb hl _ => hsame β fun e => hl (e ▸ hlv), live := fun β _ l => .inl (hlive β l), own := fun _ _ o => o.elim,
            sig := fun x v _ h => .inl (by rw [hsig] at h; exact h), next := hnext }
theorem WR.put {h : Heap} {id : Nat} {blk blk' : Blk} {L : Loc} (r : WR C h w) (hg : h.get id = some blk) (hm : C.mu id = some L) (hs : w'.heap.size = w.heap.size) (hsame : ∀ β, β ≠ L.b → w'.heap[β]? = w.heap[β]?)
    (hbr : BR C w' L blk') (hos : w'.os = w.os) (htp : w'.tape = w.tape) (hout : w'.output = w.output) :
    WR C (h.put id blk') w' ∧ Ext C h (fun _ => False) w C (h.put id blk') (fun _ => False) w' := by
  refine WR.turn (id' := id) (L' := L) (blk' := blk') r (.refl C) rfl hg hm (fun j bj hj => ?_) hm rfl (Nat.le_refl _) (fun j Lj hj => r.fresh j Lj hj) hs hsame hbr hos htp hout
  rw [Heap.get_put] at hj
  by_cases e : id = j
  · rw [if_pos e] at hj
    exact .inr ⟨e.symm, by cases hj; rfl⟩
  · rw [if_neg e] at hj
    exact .inl ⟨fun e' => e e'.symm, fun e' => e e'.symm, hj, fun _ h => h⟩
theorem St.turn {C' : Cfg} {h' : Heap} (s : St C lam ms F b a w cs) (r : WR C' h' w' ∧ Ext C F.hp (fun _ => False) w C' h' (fun _ => False) w') :
    St C' lam ms { F with hp := h' } b a w' cs ∧ Ext C F.hp (Own lam ms) w C' h' (Own lam ms) w' := ⟨s.later r.1 r.2, r.2.wide _⟩
theorem WR.del {h : Heap} (r : WR C h w) (id : Nat) : WR C (h.del id) w ∧ Ext C h (fun _ => False) w C (h.del id) (fun _ => False) w := by
  have hget : ∀ j bj, (h.del id).get j = some bj → h.get j = some bj := fun j bj hj => by
    rw [Heap.get_del] at hj
    split at hj
    · cases hj
    · exact hj
  refine ⟨⟨r.sig, fun j bj hj => r.blk j bj (hget j bj hj), fun j1 j2 b1 b2 L1 L2 h1 h2 => r.inj j1 j2 b1 b2 L1 L2 (hget _ _ h1) (hget _ _ h2), fun j bj Lj x v h1 => r.apart j bj Lj x v (hget _ _ h1), r.fresh, r.base⟩, ?_⟩
  exact { le := .refl C, os := rfl, tape := rfl, output := rfl, size := Nat.le_refl _, same := fun _ _ _ _ => rfl, live := fun β _ ⟨j, bj, Lj, h1, h2, h3⟩ => .inl ⟨j, bj, Lj, hget _ _ h1, h2, h3⟩,
          own := fun _ _ o => o.elim, sig := fun _ _ _ h => .inl h, next := Nat.le_refl _ }
def lamSet (lam : Nat → Option Nat) (s β : Nat) : Nat → Option Nat := fun t => if t = s then some β else lam t
theorem SR.newBox {v : AV} {u : Value} {lm : Mp (Nat × List AV)} {s β : Nat} {cells : List AV} (h : SR C lam lm v u) : SR C (lamSet lam s β) (lm.set s (nextGen lm s, cells)) v u := by
  cases v <;> first | exact h | skip
  rename_i s' g off
  obtain ⟨g', cs', β', h1, h2, h3, h4⟩ := h
  by_cases e : s = s'
  · subst e
    refine ⟨nextGen lm s, cells, β', by simp, ?_, h3, fun e => ?_⟩
    · simp [nextGen, h1]; omega
    · simp [nextGen, h1] at e; omega
  · refine ⟨g', cs', β', by simp [e, h1], h2, h3, fun e' => ?_⟩
    simp only [lamSet]
    rw [if_neg (fun e' => e e'.symm)]
    exact h4 e'
theorem St.newBox (s : St C lam ms F b a w cs) {t : Nat} {cells : List AV} {c : Array Value} {T : TypeId} (hr : VRs C cells c) (h1 : ∀ x ∈ cells, x.one = true) :
    let w' : World := { w with heap := w.heap.push (.cells c T) }
    let lam' := lamSet lam t w.heap.size
    let F' : Fr := { F with lm := F.lm.set t (nextGen F.lm t, cells) }
    SR C lam' F'.lm (.lptr t (nextGen F.lm t) 0) (.pointer (some ⟨w.heap.size, 0, none⟩)) ∧ St C lam' ms F' b a w' cs ∧ Ext C F.hp (Own lam ms) w C F'.hp (Own lam' ms) w' := by
  intro w' lam' F'
  have hh : w'.heap = w.heap.push (.cells c T) := rfl
  have hown : ∀ β, Own lam' ms β → Own lam ms β ∨ β = w.heap.size := by
    rintro β (⟨t', ht⟩ | h)
    · simp only [lam', lamSet] at ht
      split at ht
      · cases ht; exact .inr rfl
      · exact .inl (.inl ⟨t', ht⟩)
    · exact .inl (.inr h)
  refine ⟨⟨nextGen F.lm t, cells, w.heap.size, by simp [F'], Nat.le_refl _, rfl, fun _ => by simp [lam', lamSet]⟩, ?_, ?_⟩
  · refine { wr := ⟨fun x v h => ?_, fun id blk h => ?_, s.wr.inj, s.wr.apart, s.wr.fresh, s.wr.base.on (fun _ _ e => e) (fun x v e => heap_push hh (s.wr.sig_lt e))⟩, env := fun t' => (s.env t').newBox, box := fun t' β ht => ?_, inj := fun t1 t2 β h1 h2 => ?_,
             mark := fun m hm => (heap_push hh (s.own_lt (.inr hm))).trans (s.mark m hm), nodup := s.nodup, live := fun β ho l => ?_, osig := fun β x v ho h e => ?_, df := s.df, up := s.up, fn := s.fn, rnd := s.rnd }
    · have hb := s.wr.sig_lt h
      have := s.wr.sig x v h
      unfold World.cell? at this ⊢
      rw [heap_push hh hb]
      exact this
    · obtain ⟨L, k1, k2⟩ := s.wr.blk id blk h
      exact ⟨L, k1, k2.same (.refl C) (heap_push hh k2.lt)⟩
    · simp only [lam', lamSet] at ht
      split at ht
      · rename_i e
        subst e
        cases ht
        refine ⟨nextGen F.lm t', cells, c, by simp [F'], ⟨T, 0, 0, ?_, .inl (Nat.le_refl _)⟩, hr, h1⟩
        simp [w']
      · rename_i e
        obtain ⟨g, cells', c', k1, k2, k3, k4⟩ := s.box t' β ht
        exact ⟨g, cells', c', (by show (F.lm.set t _).get t' = _; rw [Mp.get_set, if_neg (fun e' => e (Eq.symm e'))]; exact k1), k2.same (heap_push hh k2.lt), k3, k4⟩
    · simp only [lam', lamSet] at h1 h2
      split at h1 <;> split at h2
      · rename_i e1 e2; rw [e1, e2]
      · cases h1
        have := s.own_lt (.inl ⟨t2, h2⟩)
        omega
      · cases h2
        have := s.own_lt (.inl ⟨t1, h1⟩)
        omega
      · exact s.inj t1 t2 β h1 h2
    · rcases hown β ho with ho | rfl
      · exact s.live β ho l
      · have := s.wr.live_lt l
        omega
    · rcases hown β ho with ho | rfl
      · exact s.osig β x v ho h e
      · have := s.wr.sig_lt h
        omega
  · exact { le := .refl C, os := rfl, tape := rfl, output := rfl, size := by simp [w'], same := fun β h _ _ => heap_push hh h, live := fun β _ l => .inl l, own := fun β hb o => by
              rcases hown β o with o | rfl
              · exact .inr o
              · omega
            sig := fun _ _ _ h => .inl h, next := Nat.le_refl _ }
theorem St.writeBox (s : St C lam ms F b a w cs) {t g β : Nat} {cells cells' : List AV} {c' : Array Value} (hg : F.lm.get t = some (g, cells)) (hl : lam t = some β) (hr : VRs C cells' c') (h1 : ∀ x ∈ cells', x.one = true)
    (hc : isCells w' β c') (hs : w'.heap.size = w.heap.size) (hsame : ∀ β', β' ≠ β → w'.heap[β']? = w.heap[β']?) (hos : w'.os = w.os) (htp : w'.tape = w.tape) (hout : w'.output = w.output) :
    St C lam ms { F with lm := F.lm.set t (g, cells') } b a w' cs ∧ Ext C F.hp (Own lam ms) w C F.hp (Own lam ms) w' := by
  have hown : Own lam ms β := .inl ⟨t, hl⟩
  constructor
  · refine { wr := ⟨fun x v h => ?_, fun id blk h => ?_, s.wr.inj, s.wr.apart, s.wr.fresh, s.wr.base.on (fun _ _ e => e) (fun x v e => hsame _ (s.osig β x v hown e))⟩, env := fun t' => ?_, box := fun t' β' ht => ?_, inj := s.inj, mark := fun m hm => ?_, nodup := s.nodup, live := s.live, osig := s.osig, df := s.df, up := s.up, fn := s.fn, rnd := s.rnd }
    · have := s.wr.sig x v h
      unfold World.cell? at this ⊢
      rw [hsame _ (s.osig β x v hown h)]
      exact this
    · obtain ⟨L, k1, k2⟩ := s.wr.blk id blk h
      exact ⟨L, k1, k2.same (.refl C) (hsame _ fun e => s.live β hown ⟨id, blk, L, h, k1, e⟩)⟩
    · have := s.env t'
      show SR C lam (F.lm.set t (g, cells')) (F.tmp t') _
      revert this
      cases F.tmp t' <;> intro this <;> first | exact this | skip
      rename_i s' g1 off
      obtain ⟨g', cs', β', k1, k2, k3, k4⟩ := this
      by_cases e : t = s'
      · subst e
        rw [hg] at k1
        cases k1
        exact ⟨g, cells', β', by simp, k2, k3, k4⟩
      · exact ⟨g', cs', β', by simp [e, k1], k2, k3, k4⟩
    · by_cases e : t = t'
      · subst e
        rw [hl] at ht
        cases ht
        exact ⟨g, cells', c', by simp, hc, hr, h1⟩
      · obtain ⟨g1, cells1, c1, k1, k2, k3, k4⟩ := s.box t' β' ht
        exact ⟨g1, cells1, c1, by simp [e, k1], k2.same (hsame _ fun e' => e (s.inj t t' β hl (e' ▸ ht))), k3, k4⟩
    · exact (hsame m fun e => by
        obtain ⟨g1, cells1, c1, k1, ⟨T, lo, hi, k2, _⟩, _⟩ := s.box t β hl
        have := s.mark m hm
        rw [e, k2] at this
        cases this).trans (s.mark m hm)
  · exact { le := .refl C, os := hos, tape := htp, output := hout, size := by omega, same := fun β' _ _ ho => hsame β' fun e => ho (e ▸ hown), live := fun β _ l => .inl l, own := fun _ _ o => .inr o,
            sig := fun _ _ _ h => .inl h, next := Nat.le_refl _ }
end
end Go.AM
set_option linter.unusedSimpArgs false
set_option linter.unusedVariables false
set_option linter.unusedSectionVars false
namespace Go.AM
open Go
variable [Keep]
def Ran (P : Program) (ρ : Operand → Value) (o : Oper) (w : World) (u : Value) (w' : World) : Prop :=
  (execOp ρ o).run P w = .ok (.value u) w' ∨ (u = undef ∧ (execOp ρ o).run P w = .ok .skip w')
def boxy : Op → Bool
  | .alloc _ | .box _ _ => true
  | _ => false
def Eff (P : Program) (C : Cfg) (lam : Nat → Option Nat) (ms : List Nat) (F : Fr) (b : Frame) (a : Act) (w : World) (cs : List Frame) (o : Oper) (v : AV) (F' : Fr) : Prop :=
  ∃ C' lam' u w', Ran P a.eval o w u w' ∧ SR C' lam' F'.lm v u ∧ St C' lam' ms F' b a w' cs ∧ Ext C F.hp (Own lam ms) w C' F'.hp (Own lam' ms) w' ∧ (boxy o.op = false → lam' = lam)
section
variable {P : Program} {w w' : World} {C : Cfg} {lam : Nat → Option Nat} {ms : List Nat} {F : Fr} {b : Frame} {a : Act} {cs : List Frame}
theorem okO_val {r : Option (AV × Fr)} {v : AV} {F' : Fr} (h : okO r = .val v F') : r = some (v, F') := by
  unfold okO at h
  split at h
  · cases h; rfl
  · cases h
theorem okO_pan {r : Option (AV × Fr)} {v : AV} {F' : Fr} (h : okO r = .pan v F') : False := by
  unfold okO at h
  split at h <;> cases h
theorem newBox_ok {X : Ctx} (s : St C lam ms F b a w cs) {o : Oper} {d : Option Tmp} {v r : AV} {F' : Fr} {u : Value} {T : TypeId} (h : newBox X F d v = some (r, F')) (hv : VR C v u) (hbx : boxy o.op = true)
    (hr : Ran P a.eval o w (.pointer (some ⟨w.heap.size, 0, none⟩)) { w with heap := w.heap.push (.cells u.cells T) }) : Eff P C lam ms F b a w cs o r F' := by
  unfold newBox at h
  split at h
  · cases h
  · rename_i t
    split at h
    · cases h
    · rename_i ht
      have ht' : isTuple v = false := by simpa using ht
      obtain ⟨k1, k2⟩ := hv.cells (not_tuple ht')
      split at h
      · cases h
        let L : Loc := ⟨w.heap.size, 0, 0, 0⟩
        have hle := muPush_le s.wr L
        obtain ⟨s', e'⟩ := s.fresh (w' := { w with heap := w.heap.push (.cells u.cells T) }) (o := .cells u.cells T) (blk := .var v.cells) (L := L) rfl rfl rfl rfl rfl
          ⟨u.cells, ⟨T, 0, 0, by simp [L], .inl (Nat.le_refl _)⟩, rfl, k1.mono hle, k2⟩
        exact ⟨_, _, _, _, hr, SR.of (VR.ptr (L := L) (by simp [muPush])), s', e', fun h => absurd (hbx.symm.trans h) (by simp)⟩
      · cases h
        obtain ⟨k3, k4, k5⟩ := s.newBox (t := t) (T := T) k1 k2
        exact ⟨_, _, _, _, hr, k3, k4, k5, fun h => absurd (hbx.symm.trans h) (by simp)⟩
theorem St.allocE {X : Ctx} (s : St C lam ms F b a w cs) {o : Oper} {t : TypeId} {v : AV} {F' : Fr} (ho : o.op = .alloc t) (h : F.allocE X o.dst t = .val v F') : Eff X.P C lam ms F b a w cs o v F' := by
  unfold Fr.allocE at h
  split at h
  · rename_i z hz
    obtain ⟨zv, z1, z2, _⟩ := run_zero (P := X.P) (w := w) (C := C) hz
    refine newBox_ok (T := t) s (okO_val h) z2 (by rw [ho]; rfl) (.inl ?_)
    simp [execOp, ho, Instr.alloc, z1, newVar, newRow]
  · cases h
theorem St.boxE {X : Ctx} (s : St C lam ms F b a w cs) {o : Oper} {t : TypeId} {x : Operand} {v : AV} {F' : Fr} (ho : o.op = .box t x) (h : F.boxE X o.dst x = .val v F') : Eff X.P C lam ms F b a w cs o v F' := by
  unfold Fr.boxE at h
  split at h
  · rename_i y hy
    refine newBox_ok (T := t) s (okO_val h) (s.opv hy) (by rw [ho]; rfl) (.inl ?_)
    simp [execOp, ho, Instr.box, newVar, newRow]
  · cases h
theorem run_storeVar {t : TypeId} {ag : Bool} {n B O : Nat} {c : Array Value} {v : Value} (hl : lay P t = some (ag, n)) (hn : v.cells.size = n) (hc : isCells w B c) (hle : O + n ≤ c.size) (h1 : ∀ x ∈ v.cells.toList, oneV x = true) :
    ∃ w', (storeVar t ⟨B, O, none⟩ v).run P w = .ok () w' ∧ isCells w' B (setMany c O v.cells.toList) ∧ w'.heap.size = w.heap.size ∧ (∀ β, β ≠ B → w'.heap[β]? = w.heap[β]?) ∧ w'.os = w.os ∧ w'.tape = w.tape ∧ w'.output = w.output := by
  obtain ⟨_, k2, _⟩ := run_lay (P := P) (w := w) hl
  have hll : v.cells.toList.length = n := by simpa using hn
  obtain ⟨w', e1, e2, e3⟩ := run_storeCells (P := P) v.cells.toList 0 w c hc (by rw [Nat.add_zero, hll]; exact hle) h1
  refine ⟨w', ?_, by simpa using e2, e3⟩
  simp only [storeVar, Sem.run_bind, k2, Result.andThen_ok, hn, ne_eq, not_true_eq_false, if_false, e1, Sem.run_pure]
theorem asElem_cells {e : AV} {q : List AV} (hl : q.length = e.cells.length) (h1 : ∀ y ∈ q, y.one = true) : (asElem (isAggV e) q).cells = q := by
  have key : ∀ q : List AV, q.length = 1 → (∀ y ∈ q, y.one = true) → (asElem false q).cells = q := fun q h1 h2 => by
    obtain ⟨y, rfl⟩ := List.length_eq_one_iff.1 h1
    have := h2 y (by simp)
    cases y <;> first | rfl | simp [AV.one] at this
  cases e with
  | agg l => simp [asElem, isAggV, AV.cells]
  | _ => exact key q hl h1
theorem St.write (s : St C lam ms F b a w cs) {p : AV} {pv : Value} {F' : Fr} {t : TypeId} {ag : Bool} {x : AV} {xv : Value} (hp : SR C lam F.lm p pv) (hl : lay P t = some (ag, x.cells.length)) (hx : VR C x xv) (ht : isTuple x = false)
    (h : F.write p x.cells = some F') :
    ∃ A w', pv = .pointer (some A) ∧ (storeVar t A xv).run P w = .ok () w' ∧ St C lam ms F' b a w' cs ∧ Ext C F.hp (Own lam ms) w C F'.hp (Own lam ms) w' := by
  obtain ⟨k1, k2⟩ := hx.cells (not_tuple ht)
  have hone : ∀ y ∈ xv.cells.toList, oneV y = true := k1.one_all k2
  have hsz : xv.cells.size = x.cells.length := k1.1
  unfold Fr.write at h
  split at h
  · rename_i t' g off
    split at h
    · rename_i g' cells hg
      split at h
      · rename_i hh
        obtain ⟨rfl, hle⟩ := hh
        cases h
        obtain ⟨g2, cs2, β, e1, _, rfl, e2⟩ := hp
        rw [hg] at e1
        cases e1
        have e3 := e2 rfl
        obtain ⟨g3, cells3, c, f1, f2, f3, f4⟩ := s.box t' β e3
        rw [hg] at f1
        cases f1
        obtain ⟨w', r1, r2, r3, r4, r5, r6, r7⟩ := run_storeVar (P := P) (w := w) (O := off) hl hsz f2 (by rw [f3.1]; exact hle) hone
        obtain ⟨s', e'⟩ := s.writeBox (w' := w') hg e3 (VRs.splice f3 k1 hle) (one_splice f4 k2) r2 r3 r4 r5 r6 r7
        exact ⟨_, w', rfl, r1, s', e'⟩
      · cases h
    · cases h
  · rename_i id off
    split at h
    · rename_i cells hg
      split at h
      · rename_i hle
        cases h
        obtain ⟨L, e1, c, f1, f2, f3, f4⟩ := s.wr.blk id _ hg
        cases hp with
        | ptr e2 =>
          rw [e1] at e2
          cases e2
          rw [f2, Nat.zero_add]
          obtain ⟨w', r1, r2, r3, r4, r5, r6, r7⟩ := run_storeVar (P := P) (w := w) (O := off) hl hsz f1 (by rw [f3.1]; exact hle) hone
          obtain ⟨s', e'⟩ := s.turn (WR.put s.wr (blk' := .var (Go.AM.splice cells off x.cells)) hg e1 r3 r4 ⟨_, r2, f2, VRs.splice f3 k1 hle, one_splice f4 k2⟩ r5 r6 r7)
          exact ⟨_, w', rfl, r1, s', e'⟩
      · cases h
    · cases h
  · rename_i id sz i j
    split at h
    · rename_i sz' el hg
      split at h
      · rename_i hszz
        subst hszz
        split at h
        · rename_i e he
          split at h
          · rename_i hle
            cases h
            obtain ⟨L, e1, c, f1, f2, f3, f4, f5⟩ := s.wr.blk id _ hg
            cases hp with
            | eptr e2 =>
              rw [e1] at e2
              cases e2
              obtain ⟨g1, g2, g3⟩ := f5 i e he
              have hi : i < el.length := by
                rcases Nat.lt_or_ge i el.length with h' | h'
                · exact h'
                · rw [List.getElem?_eq_none h'] at he; cases he
              have hrow : (i + 1) * sz ≤ el.length * sz := Nat.mul_le_mul_right _ hi
              rw [Nat.add_mul, Nat.one_mul] at hrow
              have hin : L.o + i * sz + j + x.cells.length ≤ c.size := by omega
              obtain ⟨w', r1, r2, r3, r4, r5, r6, r7⟩ := run_storeVar (P := P) (w := w) (O := L.o + i * sz + j) hl hsz f1 hin hone
              have hcells : (asElem (isAggV e) (Go.AM.splice e.cells j x.cells)).cells = Go.AM.splice e.cells j x.cells := by
                exact asElem_cells (splice_length hle) (one_splice g2 k2)
              have hbr : BR C w' L (.rw sz (el.set i (asElem (isAggV e) (Go.AM.splice e.cells j x.cells)))) := by
                refine ⟨_, r2, f2, by rw [setMany_size]; exact f3, by rw [setMany_size]; simpa using f4, fun i' e' he' => ?_⟩
                rw [List.getElem?_set] at he'
                have hul : xv.cells.toList.length = x.cells.length := by simpa using hsz
                by_cases hii : i = i'
                · subst hii
                  simp [hi] at he'
                  subst he'
                  rw [hcells]
                  refine ⟨by rw [splice_length hle]; exact g1, one_splice g2 k2, fun j' y hy => ?_⟩
                  rw [splice_get hle] at hy
                  rw [setMany_get _ _ _ _ (by rw [hul]; exact hin), hul]
                  by_cases hjj : j ≤ j' ∧ j' < j + x.cells.length
                  · rw [if_pos hjj] at hy
                    rw [if_pos (by omega)]
                    obtain ⟨v, hv, hr⟩ := k1.get hy
                    exact ⟨v, by rw [show L.o + i * sz + j' - (L.o + i * sz + j) = j' - j from by omega]; simpa using hv, hr⟩
                  · rw [if_neg hjj] at hy
                    rw [if_neg (by omega)]
                    exact g3 j' y hy
                · rw [if_neg hii] at he'
                  obtain ⟨q1, q2, q3⟩ := f5 i' e' he'
                  refine ⟨q1, q2, fun j' y hy => ?_⟩
                  have hj' : j' < sz := by
                    rw [← q1]
                    rcases Nat.lt_or_ge j' e'.cells.length with h' | h'
                    · exact h'
                    · rw [List.getElem?_eq_none h'] at hy; cases hy
                  rw [setMany_get _ _ _ _ (by rw [hul]; exact hin), hul, if_neg ?_]
                  · exact q3 j' y hy
                  · rcases Nat.lt_or_gt_of_ne hii with hlt | hgt
                    · have : (i + 1) * sz ≤ i' * sz := Nat.mul_le_mul_right _ hlt
                      rw [Nat.add_mul, Nat.one_mul] at this
                      omega
                    · have : (i' + 1) * sz ≤ i * sz := Nat.mul_le_mul_right _ hgt
                      rw [Nat.add_mul, Nat.one_mul] at this
                      omega
              obtain ⟨s', e'⟩ := s.turn (WR.put s.wr hg e1 r3 r4 hbr r5 r6 r7)
              exact ⟨_, w', rfl, r1, s', e'⟩
          · cases h
        · cases h
      · cases h
    · cases h
  · cases h
theorem VRundef (C : Cfg) : VR C undefA undef := .tuple rfl (fun i hi => by simp at hi)
theorem St.storeE (s : St C lam ms F b a w cs) {o : Oper} {t : TypeId} {x y : Operand} {v : AV} {F' : Fr} (ho : o.op = .store t x y) (h : F.storeE P t x y = .val v F') : Eff P C lam ms F b a w cs o v F' := by
  unfold Fr.storeE at h
  split at h
  · rename_i p q hp hq
    split at h
    · rename_i ag n hl
      split at h
      · rename_i hh
        obtain ⟨rfl, ht⟩ := hh
        split at h
        · rename_i F1 hw
          cases h
          obtain ⟨A, w', e1, e2, e3, e4⟩ := s.write (P := P) (s.opd hp) hl (s.opv hq) ht hw
          refine ⟨C, lam, undef, w', .inr ⟨rfl, ?_⟩, SR.of (VRundef C), e3, e4, fun _ => rfl⟩
          simp [execOp, ho, Instr.storeAt, Instr.sureAddr, e1, e2]
        · cases h
      · cases h
    · cases h
  · cases h
end
end Go.AM
set_option linter.unusedSimpArgs false
set_option linter.unusedVariables false
set_option linter.unusedSectionVars false
namespace Go.AM
open Go
variable [Keep]
section
variable {P : Program} {w w' : World} {C : Cfg} {lam : Nat → Option Nat} {ms : List Nat} {F : Fr} {b : Frame} {a : Act} {cs : List Frame}
theorem FlatR.mono {C D : Cfg} (hle : C.le D) {m o : Nat} {elems : List AV} {c : Array Value} (h : FlatR C m elems c o) : FlatR D m elems c o := fun i e he => by
  obtain ⟨g1, g2, g3⟩ := h i e he
  exact ⟨g1, g2, fun j x hx => let ⟨v, hv, hr⟩ := g3 j x hx; ⟨v, hv, hr.mono hle⟩⟩
theorem St.newRow (s : St C lam ms F b a w cs) {o : Oper} {elems : List AV} {c : Array Value} {T : TypeId} {sz cap : Nat} (hf : FlatR C sz elems c 0) (hc : cap * sz ≤ c.size) (hl : elems.length ≤ cap)
    (hw : w'.heap = w.heap.push (.cells c T)) (hos : w'.os = w.os) (htp : w'.tape = w.tape) (hout : w'.output = w.output)
    (hr : Ran P a.eval o w (.slice (some ⟨w.heap.size, 0, none⟩) elems.length cap) w') : Eff P C lam ms F b a w cs o (.row F.hp.next 0 elems.length) { F with hp := F.hp.new (.rw sz elems) } := by
  let L : Loc := ⟨w.heap.size, 0, sz, c.size⟩
  have hle := muPush_le s.wr L
  have hmul : elems.length * sz ≤ cap * sz := Nat.mul_le_mul_right _ hl
  obtain ⟨s', e'⟩ := s.fresh (o := .cells c T) (blk := .rw sz elems) (L := L) hw hos htp hout rfl
    ⟨c, ⟨T, 0, 0, by rw [hw]; simp [L], .inl (Nat.le_refl _)⟩, rfl, rfl, by simp [L]; omega, hf.mono hle⟩
  exact ⟨_, _, _, _, hr, SR.of (VR.row (L := L) _ (by simp [muPush]) hl (.inr (by simp [L])) (by simp [L]; exact hc)), s', e', fun _ => rfl⟩
theorem St.rowE (s : St C lam ms F b a w cs) {o : Oper} {t : TypeId} {n : Nat} {ps : Array (Nat × Operand)} {v : AV} {F' : Fr} (ho : o.op = .buildSlice t n ps) (h : F.rowE P t n ps.toList = .val v F') : Eff P C lam ms F b a w cs o v F' := by
  unfold Fr.rowE at h
  split at h
  · rename_i e l he hb
    cases h
    obtain ⟨c, e2, he2, hrun, hv⟩ := buildSlice_ok (P := P) s hb
    rw [he] at he2
    cases he2
    rcases hv with ⟨hv, _⟩ | ⟨elems, hv, hl, hf, hsz⟩
    · cases hv
    · cases hv
      refine s.newRow (w' := { w with heap := w.heap.push (.cells c e) }) (T := e) (cap := n) hf (by omega) (by omega) rfl rfl rfl rfl (.inl ?_)
      simp only [execOp, ho, Sem.run_bind, hrun, Result.andThen_ok, Sem.run_pure, hl]
  · cases h
theorem St.mapE (s : St C lam ms F b a w cs) {o : Oper} {t : TypeId} {r : Option Operand} {v : AV} {F' : Fr} (ho : o.op = .makeMap t r) (h : F.mapE r = .val v F') : Eff P C lam ms F b a w cs o v F' := by
  unfold Fr.mapE at h
  split at h
  · cases h
    let L : Loc := ⟨w.heap.size, 0, 0, 0⟩
    obtain ⟨s', e'⟩ := s.fresh (w' := { w with heap := w.heap.push (.map #[] 0) }) (o := .map #[] 0) (blk := .mp []) (L := L) rfl rfl rfl rfl rfl ⟨#[], 0, by simp [L], rfl, fun i k v h => by simp at h⟩
    refine ⟨_, _, _, _, .inl ?_, SR.of (VR.map (L := L) (by simp [muPush])), s', e', fun _ => rfl⟩
    simp [execOp, ho, Instr.makeMap, L]
  · cases h
theorem wrap64 {n : Int} (h0 : 0 ≤ n) (h1 : n ≤ 1048576) : IntKind.i64.wrap n = n := by
  simp [IntKind.wrap, IntKind.bits, IntKind.signed]
  omega
theorem St.makeSliceE (s : St C lam ms F b a w cs) {o : Oper} {t : TypeId} {l c : Operand} {v : AV} {F' : Fr} (ho : o.op = .makeSlice t l c) (h : F.makeSliceE P t l c = .val v F') : Eff P C lam ms F b a w cs o v F' := by
  unfold Fr.makeSliceE at h
  split at h
  · rename_i e k1 n k2 m he hl hc
    split at h
    · rename_i z i hz hi
      split at h
      · rename_i hh
        obtain ⟨h0, h1, h2, h3, h4, h5, h6⟩ := hh
        cases h
        obtain ⟨zv, z1, z2, i', hi', _⟩ := run_zero (P := P) (w := w) (C := C) hz
        have hs : (sizeOf e).run P w = .ok (szT P e) w := by simp [sizeOf, run_info hi, szT, hi]
        have el := (s.opv hl).int_inv
        have ec := (s.opv hc).int_inv
        simp only [most] at h2
        have hm : m ≤ 1048576 := h2
        have w1 := wrap64 h0 (by omega)
        have w2 := wrap64 (n := m) (by omega) hm
        have hbm : (i.bytes : Int) * m ≤ 281474976710656 := by
          have : (i.bytes : Int) * m ≤ 65536 * 1048576 := Int.mul_le_mul (by omega) hm (by omega) (by omega)
          omega
        have hf := FlatR.zeros (n := m.toNat) z2 h5 h4 h6
        have hf' : FlatR C (szT P e) (List.replicate n.toNat z) ((Array.range (m.toNat * szT P e)).map (zv.cells[· % zv.cells.size]!)) 0 := fun i' e' he' => by
          refine hf i' e' ?_
          rw [List.getElem?_replicate] at he' ⊢
          split at he'
          · rw [if_pos (by omega)]; exact he'
          · cases he'
        have hlen : (List.replicate n.toNat z).length = n.toNat := by simp
        have := s.newRow (P := P) (o := o) (w' := { w with heap := w.heap.push (.cells ((Array.range (m.toNat * szT P e)).map (zv.cells[· % zv.cells.size]!)) e) }) (T := e) (cap := m.toNat) hf' (by simp) (by simp; omega) rfl rfl rfl rfl (by
          rw [hlen]
          refine .inl ?_
          have t1 : ¬ (m < 0) := by omega
          have t2 : ¬ (281474976710656 < (i.bytes : Int) * m) := by omega
          have t3 : ¬ (n < 0) := by omega
          have t4 : ¬ (m < n) := by omega
          have hai : ∀ k n, (asInt (.int k n)).run P w = .ok n w := fun k n => by simp [asInt, asIntOf]
          simp only [execOp, ho, Instr.makeSlice, Sem.run_bind, run_und (elemT_und he), Result.andThen_ok, el, ec, hai, Sem.run_pure, run_info hi, w1, w2]
          simp only [t1, t2, t3, t4, decide_false, Bool.or_false, Bool.or_self, Bool.false_eq_true, if_false, Int.reducePow, gt_iff_lt, run_askRoom, Sem.run_bind, Result.andThen_ok, hs]
          by_cases hz0 : m.toNat * szT P e = 0
          · have hm0 : m.toNat = 0 := by rcases Nat.mul_eq_zero.1 hz0 with h | h; exact h; exact absurd h h6
            simp [hm0, Go.newRow, show Array.range 0 = #[] from rfl]
          · simp only [hz0, if_false, Sem.run_bind, z1, Result.andThen_ok, Sem.run_pure]
            simp [Go.newRow])
        rw [hlen] at this
        exact this
      · cases h
    · cases h
  · cases h
theorem St.rangeE (s : St C lam ms F b a w cs) {o : Oper} {t : TypeId} {x : Operand} {v : AV} {F' : Fr} (ho : o.op = .range t x) (h : F.rangeE P t x = .val v F') : Eff P C lam ms F b a w cs o v F' := by
  unfold Fr.rangeE at h
  split at h
  · rename_i st hu hx
    cases h
    let L : Loc := ⟨w.heap.size, 0, 0, 0⟩
    have ex := (s.opv hx).str_inv
    obtain ⟨s', e'⟩ := s.fresh (w' := { w with heap := w.heap.push (.stringIter ⟨⟨st⟩⟩ 0) }) (o := .stringIter ⟨⟨st⟩⟩ 0) (blk := .iter st 0) (L := L) rfl rfl rfl rfl rfl ⟨by simp [L], rfl⟩
    refine ⟨_, _, _, _, .inl ?_, SR.of (VR.ptr (L := L) (by simp [muPush])), s', e', fun _ => rfl⟩
    simp [execOp, ho, Instr.range, run_und hu, ex, L]
  · cases h
theorem run_getObj {r : Nat} {o : Obj} (h : w.heap[r]? = some o) (hc : ∀ c T f, o ≠ .cells c T f) : (getObj r).run P w = .ok o w := by
  cases o <;> simp_all [getObj, Sem.run]
theorem run_setObj {r : Nat} {o o' : Obj} (h : w.heap[r]? = some o) (hc : ∀ c T f, o ≠ .cells c T f) : (setObj r o').run P w = .ok () { w with heap := w.heap.setIfInBounds r o' } := by
  cases o <;> simp_all [setObj, Sem.run]
theorem heap_set_same {r : Nat} {o o' : Obj} (h : w.heap[r]? = some o) : (w.heap.setIfInBounds r o')[r]? = some o' := by
  have : r < w.heap.size := by
    rcases Nat.lt_or_ge r w.heap.size with h' | h'
    · exact h'
    · rw [Array.getElem?_eq_none h'] at h; cases h
  simp [this]
theorem heap_set_other {r β : Nat} {o' : Obj} (h : β ≠ r) : (w.heap.setIfInBounds r o')[β]? = w.heap[β]? := by
  rw [Array.getElem?_setIfInBounds, if_neg (fun e => h e.symm)]
theorem tuple3 {x y z : AV} {u v t : Value} (h : VR C x u) (k : VR C y v) (l : VR C z t) : VR C (.tuple [x, y, z]) (.tuple #[u, v, t]) := by
  refine .tuple rfl fun i hi => ?_
  simp at hi
  match i, hi with
  | 0, _ => exact h
  | 1, _ => exact k
  | 2, _ => exact l
theorem tuple1 {x : AV} {u : Value} (h : VR C x u) : VR C (.tuple [x]) (.tuple #[u]) := by
  refine .tuple rfl fun i hi => ?_
  simp at hi
  subst hi
  exact h
theorem St.nextE (s : St C lam ms F b a w cs) {o : Oper} {x : Operand} {st : Bool} {v : AV} {F' : Fr} (ho : o.op = .next x st) (h : F.nextE x st = .val v F') : Eff P C lam ms F b a w cs o v F' := by
  unfold Fr.nextE at h
  split at h
  · rename_i id hx
    split at h
    · rename_i str pos hg
      obtain ⟨L, e1, f1, f2⟩ := s.wr.blk id _ hg
      have hp := s.opv hx
      generalize hv0 : a.eval x = pv at hp
      cases hp with
      | ptr e2 =>
        rw [e1] at e2
        cases e2
        have hgo := run_getObj (P := P) f1 (fun _ _ _ h => by cases h)
        split at h
        · rename_i hlt
          cases h
          have hd : Utf8.decode ⟨str.toArray⟩ pos = Utf8.decode ⟨⟨str⟩⟩ pos := rfl
          obtain ⟨s', e'⟩ := s.turn (WR.put s.wr (w' := { w with heap := w.heap.setIfInBounds L.b (.stringIter ⟨⟨str⟩⟩ (pos + (Utf8.decode ⟨⟨str⟩⟩ pos).2)) }) (blk' := .iter str (pos + (Utf8.decode ⟨⟨str⟩⟩ pos).2)) hg e1 (by simp) (fun β hb => heap_set_other hb) ⟨heap_set_same f1, f2⟩ rfl rfl rfl)
          refine ⟨_, _, _, _, .inl ?_, SR.of (tuple3 (.bool true) (.int .i64 _) (.int .i32 _)), s', e', fun _ => rfl⟩
          have hsz : pos < ByteArray.size ⟨⟨str⟩⟩ := hlt
          simp only [execOp, ho, hv0, f2, Instr.next, Nat.add_zero, Sem.run_bind, hgo, Result.andThen_ok, hsz, if_true]
          simp only [Sem.run_bind, run_setObj f1 (fun _ _ _ h => by cases h), Result.andThen_ok, Sem.run_pure, goInt]
        · rename_i hlt
          cases h
          refine ⟨C, lam, _, w, .inl ?_, SR.of (tuple1 (.bool false)), s, .refl _ _ _ _, fun _ => rfl⟩
          have hsz : ¬ pos < ByteArray.size ⟨⟨str⟩⟩ := hlt
          simp only [execOp, ho, hv0, f2, Instr.next, Nat.add_zero, Sem.run_bind, hgo, Result.andThen_ok, hsz, if_false, Sem.run_pure]
    · cases h
  · cases h
mutual
theorem AV.same_eq : ∀ (x y : AV), AV.same x y = true → x = y := by
  intro x y h
  cases x <;> cases y <;> simp only [AV.same, Bool.and_eq_true, beq_iff_eq, Bool.false_eq_true] at h
  all_goals first
    | rfl
    | (rw [h])
    | (rw [h.1, h.2])
    | (rw [AV.sameL_eq _ _ h])
    | (rw [h.1, AV.same_eq _ _ h.2])
    | (rw [h.1.1, h.1.2, h.2])
    | (rw [h.1.1, AV.sameL_eq _ _ h.1.2, AV.sameL_eq _ _ h.2])
    | (rw [h.1.1.1, h.1.1.2, h.1.2, h.2])
theorem AV.sameL_eq : ∀ (x y : List AV), AV.sameL x y = true → x = y := by
  intro x y h
  cases x <;> cases y <;> simp only [AV.sameL, Bool.and_eq_true, Bool.false_eq_true] at h
  · rfl
  · rw [AV.same_eq _ _ h.1, AV.sameL_eq _ _ h.2]
end
theorem keyThatStays_ok (old new : Value) : ∃ k w1, (Instr.keyThatStays old new).run P w = .ok k w1 ∧ (k = old ∨ k = new) ∧ w1.heap = w.heap ∧ w1.os = w.os ∧ w1.tape = w.tape ∧ w1.output = w.output := by
  unfold Instr.keyThatStays
  split
  · exact ⟨new, w, rfl, .inr rfl, rfl, rfl, rfl, rfl⟩
  · simp only [Sem.run_bind, run_choose]
    split
    · exact ⟨_, _, rfl, .inr (by simp), rfl, rfl, rfl, rfl⟩
    · refine ⟨_, _, rfl, ?_, rfl, rfl, rfl, rfl⟩
      split
      · exact .inr rfl
      · exact .inl rfl
theorem mapPut_ok {kt : TypeId} {x v : AV} : ∀ (es es' : List (AV × AV)) (i : Nat), mapPut P kt x v es = some es' →
    (findI P kt x es i = some none ∧ es' = es ++ [(x, v)]) ∨ ∃ j u, findI P kt x es i = some (some (i + j, u)) ∧ es' = es.set j (x, v) ∧ es[j]? = some (x, u) := by
  intro es
  induction es with
  | nil => intro es' i h; simp [mapPut] at h; subst h; exact .inl ⟨rfl, rfl⟩
  | cons e es ih =>
    intro es' i h
    obtain ⟨k, u⟩ := e
    simp only [mapPut] at h
    simp only [findI]
    split at h
    · rename_i he
      split at h
      · rename_i hs
        cases h
        have := AV.same_eq _ _ hs
        subst this
        exact .inr ⟨0, u, by simp [he], rfl, rfl⟩
      · cases h
    · rename_i he
      split at h
      · rename_i l hl
        cases h
        rcases ih l (i + 1) hl with ⟨h1, rfl⟩ | ⟨j, u', h1, rfl, h3⟩
        · exact .inl ⟨by simp [he, h1], rfl⟩
        · exact .inr ⟨j + 1, u', by simp only [he, h1]; rw [show i + 1 + j = i + (j + 1) from by omega], rfl, by simpa using h3⟩
      · cases h
    · cases h
theorem St.mapUpdateE (s : St C lam ms F b a w cs) {o : Oper} {t : TypeId} {m k x : Operand} {v : AV} {F' : Fr} (ho : o.op = .mapUpdate t m k x) (h : F.mapUpdateE P t m k x = .val v F') : Eff P C lam ms F b a w cs o v F' := by
  unfold Fr.mapUpdateE at h
  split at h
  · rename_i kt et id kv xv hu hm hk hx
    split at h
    · rename_i hkey
      split at h
      · rename_i es hg
        split at h
        · rename_i es' hput
          cases h
          have rk := s.opv hk
          have rx := s.opv hx
          obtain ⟨L, e1, ces, clock, f1, f2, f3⟩ := s.wr.blk id _ hg
          have hp := s.opv hm
          generalize hv0 : a.eval m = pv at hp
          cases hp with
          | map e2 =>
            rw [e1] at e2
            cases e2
            have hER : EntR C es ces.toList := ⟨by simpa using f2, fun i k v hi => by simpa using f3 i k v hi⟩
            have hgo := run_getObj (P := P) f1 (fun _ _ _ h => by cases h)
            have hck := keyOf_ok (P := P) (w := w) hkey rk false
            rcases mapPut_ok es es' 0 hput with ⟨h1, rfl⟩ | ⟨j, u, h1, rfl, h3⟩
            · obtain ⟨rc, g1, g2⟩ := findKey_ok (P := P) (w := w) (keyOf_und hkey) rk hER h1
              cases rc with
              | some rc => exact g2.elim
              | none =>
                obtain ⟨s', e'⟩ := s.turn (WR.put s.wr (w' := { w with heap := w.heap.setIfInBounds L.b (.map (ces.push { key := a.eval k, val := a.eval x, born := clock }) (clock + 1)) }) (blk' := .mp (es ++ [(kv, xv)])) hg e1 (by simp) (fun β hb => heap_set_other hb)
                  ⟨_, _, heap_set_same f1, by simp [f2], fun i k' v' hi => by
                    rw [List.getElem?_append] at hi
                    split at hi
                    · rename_i hlt
                      obtain ⟨e, he, r⟩ := f3 i k' v' hi
                      exact ⟨e, by rw [Array.getElem?_push, if_neg (by omega)]; exact he, r⟩
                    · rename_i hlt
                      have : i = es.length := by
                        rcases Nat.lt_or_ge (i - es.length) 1 with h' | h'
                        · omega
                        · rw [List.getElem?_eq_none (by simpa using h')] at hi; cases hi
                      subst this
                      simp at hi
                      obtain ⟨rfl, rfl⟩ := hi
                      exact ⟨_, by rw [← f2]; simp; rfl, rk, rx⟩⟩ rfl rfl rfl)
                refine ⟨_, _, _, _, .inr ⟨rfl, ?_⟩, SR.of (VRundef C), s', e', fun _ => rfl⟩
                simp only [execOp, ho, hv0, Instr.mapUpdate, Sem.run_bind, run_und hu, Result.andThen_ok, hgo, hck, g1, run_setObj f1 (fun _ _ _ h => by cases h), Sem.run_pure]
            · obtain ⟨rc, g1, g2⟩ := findKey_ok (P := P) (w := w) (keyOf_und hkey) rk hER h1
              cases rc with
              | none => exact g2.elim
              | some rc =>
                obtain ⟨i, uv⟩ := rc
                obtain ⟨rfl, _⟩ := g2
                rw [Nat.zero_add] at g1
                obtain ⟨e0, he0, r0, _⟩ := f3 j kv u h3
                obtain ⟨k1, w1, q1, q2, q3, q4, q5, q6⟩ := keyThatStays_ok (P := P) (w := w) (((ces[j]?).map (·.key)).getD (a.eval k)) (a.eval k)
                have rk1 : VR C kv k1 := by
                  rcases q2 with rfl | rfl
                  · rw [he0]; exact r0
                  · exact rk
                have f1' : w1.heap[L.b]? = some (.map ces clock) := by rw [q3]; exact f1
                obtain ⟨s', e'⟩ := s.turn (WR.put s.wr (w' := { w1 with heap := w1.heap.setIfInBounds L.b (.map (ces.modify j fun e => { e with key := k1, val := a.eval x }) clock) }) (blk' := .mp (es.set j (kv, xv))) hg e1 (by simp [q3]) (fun β hb => by rw [heap_set_other hb, q3])
                  ⟨_, _, heap_set_same f1', by simp [f2], fun i k' v' hi => by
                    rw [List.getElem?_set] at hi
                    rw [Array.getElem?_modify]
                    by_cases hij : j = i
                    · subst hij
                      rw [if_pos rfl] at hi
                      split at hi
                      · cases hi
                        exact ⟨_, by rw [if_pos rfl, he0]; rfl, rk1, rx⟩
                      · cases hi
                    · rw [if_neg hij] at hi ⊢
                      exact f3 i k' v' hi⟩ q4 q5 q6)
                refine ⟨_, _, _, _, .inr ⟨rfl, ?_⟩, SR.of (VRundef C), s', e', fun _ => rfl⟩
                simp only [execOp, ho, hv0, Instr.mapUpdate, Sem.run_bind, run_und hu, Result.andThen_ok, hgo, hck, g1, q1, run_setObj f1' (fun _ _ _ h => by cases h), Sem.run_pure]
        · cases h
      · cases h
    · cases h
  · cases h
end
end Go.AM
set_option linter.unusedSimpArgs false
set_option linter.unusedVariables false
set_option linter.unusedSectionVars false
namespace Go.AM
open Go
variable [Keep]
def flat (l : List AV) : List AV := l.flatMap AV.cells
theorem flat_append (l r : List AV) : flat (l ++ r) = flat l ++ flat r := by simp [flat]
theorem flat_cons (e : AV) (l : List AV) : flat (e :: l) = e.cells ++ flat l := rfl
theorem flat_length {m : Nat} : ∀ {l : List AV}, (∀ e ∈ l, e.cells.length = m) → (flat l).length = l.length * m := by
  intro l
  induction l with
  | nil => intro _; simp [flat]
  | cons e l ih =>
    intro h
    rw [flat_cons, List.length_append, h e (by simp), ih (fun e he => h e (by simp [he])), List.length_cons, Nat.add_mul]
    omega
theorem flat_get {m : Nat} : ∀ {l : List AV} {i j : Nat} {e x : AV}, (∀ e ∈ l, e.cells.length = m) → l[i]? = some e → e.cells[j]? = some x → (flat l)[i * m + j]? = some x := by
  intro l
  induction l with
  | nil => intro i j e x _ h; simp at h
  | cons e0 l ih =>
    intro i j e x h hi hj
    rw [flat_cons]
    have h0 := h e0 (by simp)
    cases i with
    | zero =>
      simp at hi
      subst hi
      have hlt : j < e0.cells.length := by
        rcases Nat.lt_or_ge j e0.cells.length with h' | h'
        · exact h'
        · rw [List.getElem?_eq_none h'] at hj; cases hj
      rw [Nat.zero_mul, Nat.zero_add, List.getElem?_append_left hlt]
      exact hj
    | succ i =>
      have := ih (fun e he => h e (by simp [he])) (by simpa using hi) hj
      rw [List.getElem?_append_right (by rw [h0, Nat.add_mul]; omega), h0, show (i + 1) * m + j - m = i * m + j from by rw [Nat.add_mul]; omega]
      exact this
theorem flat_inv {m : Nat} : ∀ {l : List AV} {k : Nat} {x : AV}, (∀ e ∈ l, e.cells.length = m) → (flat l)[k]? = some x → ∃ i j e, l[i]? = some e ∧ e.cells[j]? = some x ∧ k = i * m + j := by
  intro l
  induction l with
  | nil => intro k x _ h; simp [flat] at h
  | cons e0 l ih =>
    intro k x h hk
    rw [flat_cons] at hk
    have h0 := h e0 (by simp)
    rcases Nat.lt_or_ge k e0.cells.length with hlt | hge
    · rw [List.getElem?_append_left hlt] at hk
      exact ⟨0, k, e0, rfl, hk, by omega⟩
    · rw [List.getElem?_append_right hge] at hk
      obtain ⟨i, j, e, h1, h2, h3⟩ := ih (fun e he => h e (by simp [he])) hk
      exact ⟨i + 1, j, e, by simpa using h1, h2, by rw [Nat.add_mul]; omega⟩
theorem mem_flat {l : List AV} {x : AV} (h : x ∈ flat l) : ∃ e ∈ l, x ∈ e.cells := by simpa [flat] using h
section
variable {P : Program} {w w' : World} {C : Cfg} {lam : Nat → Option Nat} {ms : List Nat} {F : Fr} {b : Frame} {a : Act} {cs : List Frame}
theorem FlatR.of_flat {m o : Nat} {l : List AV} {c1 c : Array Value} (h : ∀ e ∈ l, e.cells.length = m) (h1 : ∀ e ∈ l, ∀ x ∈ e.cells, x.one = true) (r : VRs C (flat l) c1) (hc : ∀ (k : Nat) (v : Value), c1[k]? = some v → c[o + k]? = some v) : FlatR C m l c o := fun i e he => by
  have hm := List.mem_of_getElem? he
  refine ⟨h e hm, h1 e hm, fun j x hx => ?_⟩
  obtain ⟨v, hv, hr⟩ := r.get (flat_get h he hx)
  exact ⟨v, by rw [Nat.add_assoc]; exact hc _ _ hv, hr⟩
structure ElemsR (P : Program) (C : Cfg) (w : World) (m : Nat) (l : List AV) (y : Value) : Prop where
  len : (Builtin.lenOf y).run P w = .ok l.length w
  read : ∀ w1 : World, w1.heap = w.heap → ∃ c, VRs C (flat l) c ∧ (Builtin.firstCells m l.length y).run P w1 = .ok c w1
  one : ∀ e ∈ l, ∀ x ∈ e.cells, x.one = true
theorem cell_heap {w w1 : World} (h : w1.heap = w.heap) (x : Addr) : w1.cell? x = w.cell? x := by simp [World.cell?, h]
theorem ElemsR.empty {m cap : Nat} (p : Option Addr) : ElemsR P C w m [] (.slice p 0 cap) := by
  refine ⟨rfl, fun w1 _ => ⟨#[], VRs.nil C, ?_⟩, by simp⟩
  cases p <;> simp [Builtin.firstCells, loadCells, loadCellsFrom]
theorem ElemsR.slice {l : List AV} {m B O cap : Nat} (hm : ∀ e ∈ l, e.cells.length = m) (h1 : ∀ e ∈ l, ∀ x ∈ e.cells, x.one = true)
    (h : ∀ (i j : Nat) (e x : AV), l[i]? = some e → e.cells[j]? = some x → ∃ v, w.cell? ⟨B, O + i * m + j, none⟩ = some v ∧ VR C x v) : ElemsR P C w m l (.slice (some ⟨B, O, none⟩) l.length cap) := by
  have key : ∀ w1 : World, w1.heap = w.heap → ∀ (k : Nat) (x : AV), k < l.length * m → (flat l)[k]? = some x → ∃ v, w1.cell? ⟨B, O + k, none⟩ = some v ∧ VR C x v := fun w1 hw k x _ hk => by
    obtain ⟨i, j, e, h2, h3, rfl⟩ := flat_inv hm hk
    obtain ⟨v, hv, hr⟩ := h i j e x h2 h3
    exact ⟨v, by rw [cell_heap hw, ← Nat.add_assoc]; exact hv, hr⟩
  have hlen := flat_length hm
  refine ⟨rfl, fun w1 hw => ?_, h1⟩
  obtain ⟨c, hc, hr⟩ := run_loadCells (P := P) (key w1 hw) (by omega)
  rw [← hlen, List.take_length] at hr
  exact ⟨c, hr, by simpa [Builtin.firstCells, ← hlen] using hc⟩
theorem St.elems (s : St C lam ms F b a w cs) {y : AV} {yv : Value} {l : List AV} {m : Nat} (r : VR C y yv) (h : F.hp.elems y = some l) (hm : ∀ e ∈ l, e.cells.length = m) : ElemsR P C w m l yv := by
  unfold Heap.elems at h
  split at h
  · cases h; cases r; exact .empty _
  · cases h; cases r; exact .empty _
  · have h := (Option.some.inj h).symm
    subst h
    cases r with
    | vslice0 => exact .empty _
    | vslice vs k1 k2 k3 k4 k5 =>
      rename_i sz b' o' cap
      refine .slice hm k5 fun i j e x hi hj => ?_
      have hlt : i < l.length := by
        rcases Nat.lt_or_ge i l.length with h' | h'
        · exact h'
        · rw [List.getElem?_eq_none h'] at hi; cases hi
      have he := List.mem_of_getElem? hi
      have hjl : j < e.cells.length := by
        rcases Nat.lt_or_ge j e.cells.length with h' | h'
        · exact h'
        · rw [List.getElem?_eq_none h'] at hj; cases hj
      have e1 : sz = m := (k2 e he).symm.trans (hm e he)
      subst e1
      have hs := s.wr.sig _ _ (k3 i j hlt (by rw [← hm e he]; exact hjl))
      have hv := k4 i j hlt (by rw [← hm e he]; exact hjl)
      refine ⟨_, hs, ?_⟩
      have g1 : l.getD i .junk = e := by simp [List.getD, hi]
      rw [g1] at hv
      have g2 : e.cells.getD j .junk = x := by simp [List.getD, hj]
      rw [g2] at hv
      exact hv
  · rename_i id off len
    split at h
    · rename_i sz el hg
      split at h
      · rename_i hle
        cases h
        obtain ⟨L, e1, c, f1, f2, f3, f4, f5⟩ := s.wr.blk id _ hg
        cases r with
        | row A e2 k1 k2 k3 =>
          rw [e1] at e2
          cases e2
          rename_i cap
          have hlen : ((el.drop off).take len).length = len := by simp; omega
          rcases k2 with rfl | rfl
          · have : len = 0 := by omega
            subst this
            exact .empty _
          · have := ElemsR.slice (P := P) (C := C) (w := w) (l := (el.drop off).take len) (m := m) (B := L.b) (O := L.o + off * L.sz) (cap := cap) hm (fun e he => (by
                obtain ⟨i, hi⟩ := List.mem_iff_getElem?.1 (List.mem_of_mem_drop (List.mem_of_mem_take he))
                exact (f5 i e hi).2.1)) (fun i j e x hi hj => by
                rw [List.getElem?_take] at hi
                split at hi
                · rename_i hlt
                  rw [List.getElem?_drop] at hi
                  obtain ⟨q1, q2, q3⟩ := f5 (off + i) e hi
                  obtain ⟨v, hv, hr⟩ := q3 j x hj
                  have hmsz : m = sz := by
                    rw [← q1]
                    refine (hm e ?_).symm
                    exact List.mem_of_getElem? (i := i) (by rw [List.getElem?_take, if_pos hlt, List.getElem?_drop]; exact hi)
                  refine ⟨v, (f1.cell _).trans ?_, hr⟩
                  rw [← hv, f2, hmsz, Nat.add_mul]
                  congr 1
                  omega
                · cases hi)
            rw [hlen] at this
            exact this
      · cases h
    · cases h
  · cases h
theorem ElemsR.str (s : List UInt8) : ElemsR P C w 1 (s.map fun b => .int .u8 b.toNat) (.string ⟨⟨s⟩⟩) := by
  have hsz : ByteArray.size ⟨⟨s⟩⟩ = s.length := rfl
  have hfl : ∀ s : List UInt8, flat (s.map fun b => AV.int .u8 b.toNat) = s.map fun b => AV.int .u8 b.toNat := by
    intro s
    induction s with
    | nil => rfl
    | cons x s ih => rw [List.map_cons, flat_cons, ih]; rfl
  refine ⟨by simp [Builtin.lenOf, hsz], fun w1 _ => ⟨(s.map fun b => Value.int .u8 b.toNat).toArray, ?_, ?_⟩, fun e he x hx => ?_⟩
  · rw [hfl]
    refine VRs.of_get (by simp) fun i x hx => ?_
    rw [List.getElem?_map] at hx
    cases hi : s[i]? with
    | none => rw [hi] at hx; cases hx
    | some b =>
      rw [hi] at hx
      cases hx
      exact ⟨.int .u8 b.toNat, by simp [hi], .int _ _⟩
  · have hx : (ByteArray.extract ⟨⟨s⟩⟩ 0 s.length) = ⟨⟨s⟩⟩ := by rw [bytes_extract]; simp
    simp [Builtin.firstCells, hx]
  · obtain ⟨b, _, rfl⟩ := List.mem_map.1 he
    simp [AV.cells] at hx
    subst hx
    rfl
theorem run_append_none' {ts : Array TypeId} {t u ty e : TypeId} {i : TypeInfo} (h0 : ts[0]? = some t) (h1 : ts[1]? = some u) (ht : P.underlying t = some (.slice e)) (hu : P.underlying u = some .string ∨ ∃ e', P.underlying u = some (.slice e'))
    (hi : P.info? e = some i) {base : Option Addr} {sLen sCap : Nat} {y : Value} (hn : (Builtin.lenOf y).run P w = .ok 0 w) (hnew : (Builtin.firstCells i.size 0 y).run P w = .ok #[] w) (hle : sLen ≤ sCap) :
    (Builtin.append_ ts ty #[.slice base sLen sCap, y]).run P w = .ok (.slice base sLen sCap) w := by
  rcases hu with hu | ⟨e', hu⟩ <;> cases base <;> simp [Builtin.append_, h0, h1, run_und ht, run_und hu, sizeOf, run_info hi, hn, hle, hnew, storeCells]
theorem run_append_grow' {ts : Array TypeId} {t u ty e : TypeId} {i : TypeInfo} {z : Value} (h0 : ts[0]? = some t) (h1 : ts[1]? = some u) (ht : P.underlying t = some (.slice e)) (hu : P.underlying u = some .string ∨ ∃ e', P.underlying u = some (.slice e'))
    (hi : P.info? e = some i) (hz : i.zero = some z) {base : Option Addr} {sLen sCap n : Nat} {y : Value} {olds news : Array Value} (hn : (Builtin.lenOf y).run P w = .ok n w)
    (hold : (Builtin.firstCells i.size sLen (.slice base sLen sCap)).run P w.drew = .ok olds w.drew) (hnew : (Builtin.firstCells i.size n y).run P w.drew = .ok news w.drew)
    (hg : sCap < sLen + n) (h63 : ((sLen + n : Nat) : Int) ≤ 9223372036854775807) (hfit : Builtin.nextslicecap (sLen + n) sCap * i.bytes ≤ 281474976710656) :
    (Builtin.append_ ts ty #[.slice base sLen sCap, y]).run P w =
      .ok (.slice (some ⟨w.heap.size, 0, none⟩) (sLen + n) (grownCap w (sLen + n) sCap e))
        (w.drew.alloc (.cells (olds ++ news ++ Builtin.zeroCells z.cells (grownCap w (sLen + n) sCap e - (sLen + n))) e)) := by
  have hn' : ¬ (sLen + n ≤ sCap) := by omega
  have h63' : ¬ (9223372036854775807 < ((sLen : Int) + (n : Int))) := by omega
  have h48' : ¬ (281474976710656 < Builtin.nextslicecap (sLen + n) sCap * i.bytes) := by omega
  rcases hu with hu | ⟨e', hu⟩ <;> simp [Builtin.append_, h0, h1, run_und ht, run_und hu, sizeOf, zeroValue, run_info hi, hz, hn, hn', h63', h48', Question.forced, hold, hnew, Go.newRow, grownCap]
theorem run_append_fits' {ts : Array TypeId} {t u ty e : TypeId} {i : TypeInfo} (h0 : ts[0]? = some t) (h1 : ts[1]? = some u) (ht : P.underlying t = some (.slice e)) (hu : P.underlying u = some .string ∨ ∃ e', P.underlying u = some (.slice e'))
    (hi : P.info? e = some i) {A : Addr} {sLen sCap n : Nat} {y : Value} {news : Array Value} {w1 : World} (hn : (Builtin.lenOf y).run P w = .ok n w)
    (hnew : (Builtin.firstCells i.size n y).run P w = .ok news w) (hg : sLen + n ≤ sCap) (hst : (storeCells (A.add (sLen * i.size)) news.toList).run P w = .ok () w1) :
    (Builtin.append_ ts ty #[.slice (some A) sLen sCap, y]).run P w = .ok (.slice (some A) (sLen + n) sCap) w1 := by
  rcases hu with hu | ⟨e', hu⟩ <;> simp [Builtin.append_, h0, h1, run_und ht, run_und hu, sizeOf, run_info hi, hn, hg, hnew, hst]
end
end Go.AM
set_option linter.unusedSimpArgs false
set_option linter.unusedVariables false
set_option linter.unusedSectionVars false
namespace Go.AM
open Go
variable [Keep]
section
variable {P : Program} {w w' : World} {C : Cfg} {lam : Nat → Option Nat} {ms : List Nat} {F : Fr} {b : Frame} {a : Act} {cs : List Frame}
theorem lt_of_get {α : Type} {l : List α} {i : Nat} {x : α} (h : l[i]? = some x) : i < l.length := by
  rcases Nat.lt_or_ge i l.length with h' | h'
  · exact h'
  · rw [List.getElem?_eq_none h'] at h; cases h
theorem FlatR.append {m o : Nat} {l r : List AV} {c : Array Value} (h : FlatR C m l c o) (k : FlatR C m r c (o + l.length * m)) : FlatR C m (l ++ r) c o := fun i e he => by
  rw [List.getElem?_append] at he
  split at he
  · exact h i e he
  · rename_i hge
    obtain ⟨g1, g2, g3⟩ := k (i - l.length) e he
    refine ⟨g1, g2, fun j x hx => ?_⟩
    obtain ⟨v, hv, hr⟩ := g3 j x hx
    refine ⟨v, ?_, hr⟩
    rw [← hv]
    congr 1
    have : l.length * m + (i - l.length) * m = i * m := by rw [← Nat.add_mul]; congr 1; omega
    omega
def isSliceA : AV → Bool | .nilslice | .vempty | .vslice _ | .row _ _ _ => true | _ => false
theorem slice_form {x : AV} {v : Value} (h : isSliceA x = true) (r : VR C x v) : ∃ p n cap, v = .slice p n cap ∧ n ≤ cap := by
  cases r <;> simp [isSliceA] at h
  · exact ⟨_, _, _, rfl, Nat.le_refl _⟩
  · exact ⟨_, _, _, rfl, ‹_›⟩
  · exact ⟨_, _, _, rfl, Nat.zero_le _⟩
  · exact ⟨_, _, _, rfl, Nat.le_refl _⟩
  · exact ⟨_, _, _, rfl, ‹_›⟩
theorem rowable_ok {e : TypeId} (h : rowable P e = true) : szT P e ≠ 0 ∧ ∃ i z, P.info? e = some i ∧ i.bytes ≤ 65536 ∧ zeroT P e = some z ∧ z.cells.length = szT P e ∧ isTuple z = false := by
  unfold rowable at h
  simp only [Bool.and_eq_true, bne_iff_ne, ne_eq] at h
  obtain ⟨⟨h1, h2⟩, h3⟩ := h
  refine ⟨h1, ?_⟩
  split at h2
  · rename_i i hi
    split at h3
    · rename_i z hz
      simp at h2 h3
      exact ⟨i, z, hi, h2, hz, h3.1, h3.2⟩
    · cases h3
  · cases h2
theorem St.grown (s : St C lam ms F b a w cs) {elems : List AV} {olds news rest : Array Value} {T : TypeId} {sz cap : Nat} (hm : ∀ e ∈ elems, e.cells.length = sz) (h1 : ∀ e ∈ elems, ∀ x ∈ e.cells, x.one = true)
    (hr : VRs C (flat elems) (olds ++ news)) (hc : (olds ++ news ++ rest).size = cap * sz) (hl : elems.length ≤ cap) :
    ∃ C', SR C' lam F.lm (.row F.hp.next 0 elems.length) (.slice (some ⟨w.heap.size, 0, none⟩) elems.length cap) ∧
      St C' lam ms { F with hp := F.hp.new (.rw sz elems) } b a (w.drew.alloc (.cells (olds ++ news ++ rest) T)) cs ∧
      Ext C F.hp (Own lam ms) w C' (F.hp.new (.rw sz elems)) (Own lam ms) (w.drew.alloc (.cells (olds ++ news ++ rest) T)) := by
  let L : Loc := ⟨w.heap.size, 0, sz, (olds ++ news ++ rest).size⟩
  have hle := muPush_le s.wr L
  have hmul : elems.length * sz ≤ cap * sz := Nat.mul_le_mul_right _ hl
  have hf : FlatR C sz elems (olds ++ news ++ rest) 0 := FlatR.of_flat hm h1 hr fun k v hv => by
    rw [Nat.zero_add]
    have hlt : k < (olds ++ news).size := by
      rcases Nat.lt_or_ge k (olds ++ news).size with h' | h'
      · exact h'
      · rw [Array.getElem?_eq_none h'] at hv; cases hv
    rw [Array.getElem?_append_left hlt]
    exact hv
  obtain ⟨s', e'⟩ := s.fresh (w' := w.drew.alloc (.cells (olds ++ news ++ rest) T)) (o := .cells (olds ++ news ++ rest) T) (blk := .rw sz elems) (L := L) rfl rfl rfl rfl rfl
    ⟨olds ++ news ++ rest, ⟨T, 0, 0, by show (w.heap.push _)[w.heap.size]? = _; simp, .inl (Nat.le_refl _)⟩, rfl, rfl, by show 0 + elems.length * sz ≤ (olds ++ news ++ rest).size; omega, hf.mono hle⟩
  exact ⟨_, SR.of (VR.row (L := L) _ (by simp [muPush]) hl (.inr (by simp [L])) (by show 0 + (0 + cap) * sz ≤ (olds ++ news ++ rest).size; rw [Nat.zero_add, Nat.zero_add]; omega)), s', e'⟩
theorem St.appendV (s : St C lam ms F b a w cs) {ts : Array TypeId} {t u ty : TypeId} {x v : AV} {new : List AV} {F' : Fr} {xv yv : Value} (h0 : ts[0]? = some t) (h1 : ts[1]? = some u)
    (hu : P.underlying u = some .string ∨ ∃ e', P.underlying u = some (.slice e')) (hx : VR C x xv) (hy : ∀ m, (∀ e ∈ new, e.cells.length = m) → m ≠ 0 → ElemsR P C w m new yv) (h : appendV P F t x new = some (v, F')) :
    ∃ C' r w', (Builtin.append_ ts ty #[xv, yv]).run P w = .ok r w' ∧ SR C' lam F'.lm v r ∧ St C' lam ms F' b a w' cs ∧ Ext C F.hp (Own lam ms) w C' F'.hp (Own lam ms) w' := by
  unfold Go.AM.appendV at h
  split at h
  · cases h
  · rename_i e he
    split at h
    · cases h
    · rename_i hnew
      simp only [Bool.or_eq_true, Bool.not_eq_true', not_or, Bool.not_eq_false, Bool.not_eq_true] at hnew
      obtain ⟨hall, hrow⟩ := hnew
      obtain ⟨hsz0, i, z, hi, hby, hzt, hzl⟩ := rowable_ok hrow
      have hm : ∀ e' ∈ new, e'.cells.length = szT P e := fun e' he' => by simpa using List.all_eq_true.1 hall e' he'
      have hE := hy (szT P e) hm hsz0
      have hszi : szT P e = i.size := by simp [szT, hi]
      obtain ⟨zv, z1, z2, i', hi', hz'⟩ := run_zero (P := P) (w := w) (C := C) hzt
      rw [hi] at hi'
      cases hi'
      have hzs : zv.cells.size = i.size := by rw [← hszi, ← hzl.1]; exact (z2.cells (not_tuple hzl.2)).1.1
      split at h
      · rename_i hn0
        have hnil : new = [] := List.eq_nil_of_length_eq_zero hn0
        subst hnil
        have key : x = v ∧ F = F' ∧ isSliceA x = true := by
          cases x <;> simp at h <;> exact ⟨h.1, h.2, rfl⟩
        obtain ⟨rfl, rfl, hs⟩ := key
        obtain ⟨p, n, cap, rfl, hnc⟩ := slice_form hs hx
        obtain ⟨c, hc, hrun⟩ := hE.read w rfl
        have : c = #[] := Array.eq_empty_of_size_eq_zero (by simpa [flat] using hc.1)
        subst this
        refine ⟨C, _, w, run_append_none' h0 h1 (elemT_und he) hu hi hE.len ?_ hnc, SR.of hx, s, .refl _ _ _ _⟩
        rw [← hszi]; exact hrun
      · rename_i hn0
        have bound : ∀ sLen, sLen + new.length ≤ 1048576 → ∀ sCap, sCap < sLen + new.length → ((sLen + new.length : Nat) : Int) ≤ 9223372036854775807 ∧ Builtin.nextslicecap (sLen + new.length) sCap * i.bytes ≤ 281474976710656 := fun sLen hb sCap hlt =>
          ⟨by omega, growslice_fits hlt (by
            have : (sLen + new.length) * i.bytes ≤ 1048576 * 65536 := Nat.mul_le_mul hb hby
            omega)⟩
        obtain ⟨news, hvs, hrun⟩ := hE.read w.drew rfl
        have hfl := flat_length hm
        have hns : news.size = new.length * i.size := by rw [hvs.1, hfl, hszi]
        have grow0 : ∀ (p : Option Addr), new.length ≤ most → ∃ C' r w', (Builtin.append_ ts ty #[.slice p 0 0, yv]).run P w = .ok r w' ∧ SR C' lam F.lm (.row F.hp.next 0 new.length) r ∧
            St C' lam ms { F with hp := F.hp.new (.rw (szT P e) new) } b a w' cs ∧ Ext C F.hp (Own lam ms) w C' (F.hp.new (.rw (szT P e) new)) (Own lam ms) w' := by
          intro p hb
          obtain ⟨b1, b2⟩ := bound 0 (by simpa [most] using hb) 0 (by omega)
          have hge := grownCap_ge w (0 + new.length) 0 e
          obtain ⟨C', q1, q2, q3⟩ := s.grown (olds := #[]) (news := news) (rest := Builtin.zeroCells zv.cells (grownCap w (0 + new.length) 0 e - (0 + new.length))) (T := e) (cap := grownCap w (0 + new.length) 0 e) hm hE.one (by simpa using hvs)
            (by
              simp only [Array.size_append, size_zeroCells, hns, hzs, hszi]
              rw [show (#[] : Array Value).size = 0 from rfl, Nat.zero_add, ← Nat.add_mul]
              congr 1
              omega) (by omega)
          refine ⟨C', _, _, run_append_grow' h0 h1 (elemT_und he) hu hi hz' hE.len (olds := #[]) (news := news) ?_ (by rw [← hszi]; exact hrun) (by omega) b1 b2, by simpa using q1, q2, q3⟩
          cases p <;> simp [Builtin.firstCells, loadCells, loadCellsFrom]
        split at h
        · split at h
          · rename_i hb
            cases h
            cases hx
            exact grow0 none hb
          · cases h
        · split at h
          · rename_i hb
            cases h
            cases hx
            exact grow0 (some _) hb
          · cases h
        · rename_i id off len
          split at h
          · rename_i sz el hg
            split at h
            · rename_i hh
              obtain ⟨rfl, htip, hb⟩ := hh
              cases h
              have hb' : len + new.length ≤ 1048576 := by simpa [most] using hb
              have hall' : ∀ e' ∈ el.drop off ++ new, e'.cells.length = szT P e ∧ ∀ x ∈ e'.cells, x.one = true := by
                obtain ⟨L, e1, c, f1, f2, f3, f4, f5⟩ := s.wr.blk id _ hg
                intro e' he'
                rcases List.mem_append.1 he' with h | h
                · obtain ⟨j, hj⟩ := List.mem_iff_getElem?.1 (List.mem_of_mem_drop h)
                  exact ⟨(f5 j e' hj).1, (f5 j e' hj).2.1⟩
                · exact ⟨hm e' h, hE.one e' h⟩
              have hdl : (el.drop off).length = len := by simp; omega
              have hlen2 : (el.drop off ++ new).length = len + new.length := by simp; omega
              have hEold : ElemsR P C w (szT P e) (el.drop off) xv := by
                have := s.elems (P := P) (l := el.drop off) hx (by simp only [Heap.elems, hg]; rw [if_pos (by omega), List.take_of_length_le (by omega)]) (fun e' he' => (hall' e' (List.mem_append_left _ he')).1)
                exact this
              obtain ⟨L, e1, c, f1, f2, f3, f4, f5⟩ := s.wr.blk id _ hg
              cases hx with
              | row A e2 k1 k2 k3 =>
                rename_i cap L'
                rw [e1] at e2
                cases e2
                by_cases hfit : len + new.length ≤ cap
                · rcases k2 with rfl | rfl
                  · omega
                  · obtain ⟨news', hvs', hrun'⟩ := hE.read w rfl
                    have hns' : news'.size = new.length * szT P e := by rw [hvs'.1, hfl]
                    have hcapm : (off + (len + new.length)) * szT P e ≤ (off + cap) * szT P e := Nat.mul_le_mul_right _ (by omega)
                    rw [f2] at k3
                    have hsum : off * szT P e + (len * szT P e + new.length * szT P e) = (off + (len + new.length)) * szT P e := by rw [Nat.add_mul, Nat.add_mul]
                    have hone : ∀ y ∈ news'.toList, oneV y = true := hvs'.one_all fun y hy => by
                      obtain ⟨e', he', hy'⟩ := mem_flat hy
                      exact hE.one e' he' y hy'
                    obtain ⟨w', r1, r2, r3, r4, r5, r6, r7⟩ := run_storeCells (P := P) (O := L.o + off * szT P e + len * szT P e) news'.toList 0 w c f1 (by simp [hns']; omega) hone
                    rw [Nat.add_zero] at r2
                    let L2 : Loc := { L with o := L.o + off * L.sz }
                    have hle := muPush_le s.wr L2
                    have hpos : L.o + off * szT P e + (el.drop off).length * szT P e = L.o + off * szT P e + len * szT P e := by rw [hdl]
                    have hfold : FlatR C (szT P e) (el.drop off) (setMany c (L.o + off * szT P e + len * szT P e) news'.toList) (L.o + off * szT P e) := fun j e' hj => by
                      rw [List.getElem?_drop] at hj
                      obtain ⟨g1, g2, g3⟩ := f5 (off + j) e' hj
                      refine ⟨g1, g2, fun j' y hy => ?_⟩
                      obtain ⟨vv, hv, hr⟩ := g3 j' y hy
                      have hjl := lt_of_get hj
                      have hj'l := lt_of_get hy
                      rw [g1] at hj'l
                      have hb1 := mul_lt_of (i := j) (n := len) (m := szT P e) (by omega) hj'l
                      refine ⟨vv, ?_, hr⟩
                      rw [setMany_get _ _ _ _ (by simp [hns']; omega), if_neg (by omega), ← hv, Nat.add_mul]
                      congr 1
                      omega
                    have hfnew : FlatR C (szT P e) new (setMany c (L.o + off * szT P e + len * szT P e) news'.toList) (L.o + off * szT P e + (el.drop off).length * szT P e) := FlatR.of_flat hm hE.one hvs' fun k vv hv => by
                      have hk : k < news'.size := by
                        rcases Nat.lt_or_ge k news'.size with h' | h'
                        · exact h'
                        · rw [Array.getElem?_eq_none h'] at hv; cases hv
                      rw [hpos, setMany_get _ _ _ _ (by simp [hns']; omega), if_pos (by simp; omega), Nat.add_sub_cancel_left]
                      simpa using hv
                    have hWR := WR.turn (C' := muPush C F.hp.next L2) (h' := (F.hp.del id).new (.rw (szT P e) (el.drop off ++ new))) (id' := F.hp.next) (L' := L2) (blk' := .rw (szT P e) (el.drop off ++ new)) (w' := w') s.wr hle rfl hg e1
                      (fun j bj hj => by
                        rw [Heap.get_new] at hj
                        by_cases e3 : F.hp.next = j
                        · rw [if_pos (by exact e3)] at hj
                          exact .inr ⟨e3.symm, by cases hj; rfl⟩
                        · rw [if_neg (by exact e3), Heap.get_del] at hj
                          by_cases e4 : id = j
                          · rw [if_pos e4] at hj; cases hj
                          · rw [if_neg e4] at hj
                            exact .inl ⟨fun e5 => e3 e5.symm, fun e5 => e4 e5.symm, hj, fun Lj hLj => by simp only [muPush] at hLj; rw [if_neg (fun e5 => e3 e5.symm)] at hLj; exact hLj⟩)
                      (by simp [muPush]) rfl (Nat.le_succ _) (fun j Lj hj => by
                        show j < F.hp.next + 1
                        simp only [muPush] at hj
                        split at hj
                        · omega
                        · have := s.wr.fresh j Lj hj; omega) r3 r4
                      ⟨_, r2, f2, by rw [setMany_size]; exact f3, by
                        rw [setMany_size, hlen2]
                        show L.o + off * L.sz + (len + new.length) * szT P e ≤ c.size
                        rw [f2, Nat.add_mul]
                        omega, by
                        show FlatR _ _ _ _ (L.o + off * L.sz)
                        rw [f2]
                        exact (FlatR.append hfold hfnew).mono hle⟩ r5 r6 r7
                    obtain ⟨s', e'⟩ := s.turn hWR
                    refine ⟨_, _, w', run_append_fits' h0 h1 (elemT_und he) hu hi (news := news') hE.len (by rw [← hszi]; exact hrun') hfit ?_, SR.of (VR.row (L := L2) _ (by simp [muPush]) (by omega) (.inr (by simp [L2])) (by
                      show L.o + off * L.sz + (0 + cap) * L.sz ≤ L.tot
                      rw [f2, Nat.zero_add]
                      have : off * szT P e + cap * szT P e = (off + cap) * szT P e := by rw [Nat.add_mul]
                      omega)), s', e'⟩
                    rw [addr_add, ← hszi, f2]
                    exact r1
                · obtain ⟨olds, hvo, hruno⟩ := hEold.read w.drew rfl
                  have hos : olds.size = len * i.size := by rw [hvo.1, flat_length (fun e' he' => (hall' e' (List.mem_append_left _ he')).1), hdl, hszi]
                  obtain ⟨b1, b2⟩ := bound len hb' cap (by omega)
                  have hge := grownCap_ge w (len + new.length) cap e
                  obtain ⟨s1, x1⟩ := s.turn (WR.del s.wr id)
                  obtain ⟨C', q1, q2, q3⟩ := s1.grown (elems := el.drop off ++ new) (olds := olds) (news := news) (rest := Builtin.zeroCells zv.cells (grownCap w (len + new.length) cap e - (len + new.length))) (T := e) (cap := grownCap w (len + new.length) cap e) (sz := szT P e)
                    (fun e' he' => (hall' e' he').1) (fun e' he' => (hall' e' he').2) (by rw [flat_append]; exact hvo.append hvs)
                    (by
                      simp only [Array.size_append, size_zeroCells, hns, hzs, hszi, hos]
                      rw [← Nat.add_mul, ← Nat.add_mul]
                      congr 1
                      omega) (by omega)
                  refine ⟨C', _, _, run_append_grow' h0 h1 (elemT_und he) hu hi hz' hE.len (olds := olds) (news := news) ?_ (by rw [← hszi]; exact hrun) (by omega) b1 b2, by rw [hlen2] at q1; exact q1, q2, x1.trans q3⟩
                  rw [← hszi, ← hdl]
                  rw [hdl] at hruno ⊢
                  exact hruno
            · cases h
          · cases h
        · cases h
end
end Go.AM
set_option linter.unusedSimpArgs false
set_option linter.unusedVariables false
set_option linter.unusedSectionVars false
namespace Go.AM
open Go
variable [Keep]
def Answered (P : Program) (C : Cfg) (h : Heap) (w : World) (m : Machine) (c : Frame) (cs : List Frame) : COut → Prop
  | .ret v h' _ => ∃ C' w' u, Steps P m (lone (c.finish u) cs w') ∧ VR C' v u ∧ WR C' h' w' ∧ Ext C h (fun _ => False) w C' h' (fun _ => False) w'
  | .pan v h' _ => ∃ C' w' u, Steps P m (lone (c.raise [{ v := u, recovered := false }]) cs w') ∧ VR C' v u ∧ WR C' h' w' ∧ Ext C h (fun _ => False) w C' h' (fun _ => False) w'
  | .fail => True
def ClOK (P : Program) (cl : FuncId → List AV → Heap → COut) : Prop :=
  ∀ (f : FuncId) (args : List AV) (h : Heap) (C : Cfg) (w : World) (vs : Array Value), WR C h w → VRs C args vs → cl f args h ≠ .fail →
    (∃ fn, P.funcs[f]? = some fn ∧ fn.body.isSome = true) ∧ ∀ c cs, Answered P C h w (lone (Frame.enter P f vs .normal) (c :: cs) w) c cs (cl f args h)
def RdOK (P : Program) (rd : Nat → List AV → Heap → COut) : Prop :=
  ∀ (id : Nat) (args : List AV) (h : Heap) (C : Cfg) (w : World) (vs : Array Value) (L : Loc), WR C h w → VRs C args vs → C.mu id = some L → rd id args h ≠ .fail →
    ∃ f tmps assign body, (Instr.yield L.b vs).run P w = .ok (.round L.b f tmps assign body) w ∧ ∀ c cs, Answered P C h w (lone (Frame.round L.b f tmps assign body .normal) (c :: cs) w) c cs (rd id args h)
def NoNum (P : Program) : Prop := ∀ (f : FuncId) (fn : Func), P.funcs[f]? = some fn → (fn.name == "runtime.NumGoroutine") = false
theorem run_callFunc {P : Program} {w : World} (hP : NoNum P) {f : FuncId} {fn : Func} {vs : Array Value} (hf : P.funcs[f]? = some fn) (hb : fn.body.isSome = true) : (callFunc f vs).run P w = .ok (.enter f vs) w := by
  cases hbb : fn.body with
  | none => rw [hbb] at hb; cases hb
  | some c =>
    have hn : ¬ fn.name = "runtime.NumGoroutine" := by simpa using hP f fn hf
    simp [callFunc, hf, hn, hbb]
def CsR (b : Frame) (cs cs' : List Frame) : Prop := cs' = cs ∨ (b.kind = .deferred ∧ ∃ c rest m, cs = c :: rest ∧ cs' = { c with mode := m } :: rest)
theorem CsR.refl (b : Frame) (cs : List Frame) : CsR b cs cs := .inl rfl
theorem CsR.trans {b : Frame} {x y z : List Frame} (h : CsR b x y) (k : CsR b y z) : CsR b x z := by
  rcases h with rfl | ⟨h1, c, rest, m, rfl, rfl⟩
  · exact k
  · rcases k with rfl | ⟨_, c', rest', m', e, rfl⟩
    · exact .inr ⟨h1, c, rest, m, rfl, rfl⟩
    · cases e
      exact .inr ⟨h1, c, rest, m', rfl, rfl⟩
def Pan (u : Value) : FrameMode := .panicking [{ v := u, recovered := false }]
def OpRun (P : Program) (C : Cfg) (lam : Nat → Option Nat) (ms : List Nat) (F : Fr) (b : Frame) (a : Act) (w : World) (cs : List Frame) (ops : Array Oper) (i : Nat) (rest : List Nat) (k : List Item) (bx : Bool) (d : Option Tmp) : OOut → Prop
  | .val v F' => ∃ C' lam' a' cs' w' u, Steps P (lone (b.atR a (.inRegion ops (i :: rest) :: k)) cs w) (lone (b.atR (a'.put d u) (.inRegion ops rest :: k)) cs' w') ∧ a'.tmps = a.tmps ∧ SR C' lam' F'.lm v u ∧
      St C' lam' ms F' b a' w' cs' ∧ Ext C F.hp (Own lam ms) w C' F'.hp (Own lam' ms) w' ∧ CsR b cs cs' ∧ (bx = false → lam' = lam)
  | .pan v F' => ∃ C' lam' a' cs' w' u, Steps P (lone (b.atR a (.inRegion ops (i :: rest) :: k)) cs w) (lone { b.atR a' (.inRegion ops (i :: rest) :: k) with mode := Pan u } cs' w') ∧ a'.tmps = a.tmps ∧ VR C' v u ∧
      St C' lam' ms F' b a' w' cs' ∧ Ext C F.hp (Own lam ms) w C' F'.hp (Own lam' ms) w' ∧ CsR b cs cs' ∧ (bx = false → lam' = lam)
  | .fail => True
section
variable {P : Program} {w w' : World} {C : Cfg} {lam : Nat → Option Nat} {ms : List Nat} {F : Fr} {b : Frame} {a : Act} {cs : List Frame} {ops : Array Oper} {i : Nat} {rest : List Nat} {k : List Item} {o : Oper}
theorem Eff.opRun {v : AV} {F' : Fr} (h : Eff P C lam ms F b a w cs o v F') (ho : ops[i]? = some o) (hw : Region.wanted o (yielded ops a.tmps) = true) (hd : ∀ c, o.op ≠ .defer c) : OpRun P C lam ms F b a w cs ops i rest k (boxy o.op) o.dst (.val v F') := by
  obtain ⟨C', lam', u, w', hr, h1, h2, h3, h4⟩ := h
  refine ⟨C', lam', a, cs, w', u, .one ?_, rfl, h1, h2, h3, .refl b cs, h4⟩
  rcases hr with hr | ⟨rfl, hr⟩
  · exact stepA_value ho hw hd hr
  · exact stepA_skip ho hw hd hr
theorem St.answered (s : St C lam ms F b a w cs) (ho : ops[i]? = some o) {m : Machine} {r : COut} (h0 : step P (lone (b.atR a (.inRegion ops (i :: rest) :: k)) cs w) = .next m)
    (h : Answered P C F.hp w m (b.atR a (.inRegion ops (i :: rest) :: k)) cs r) : OpRun P C lam ms F b a w cs ops i rest k (boxy o.op) o.dst (outOf F r) := by
  cases r with
  | ret v h' up =>
    obtain ⟨C', w', u, h1, h2, h3, h4⟩ := h
    have hf := Frame.finish_atR b a ops i rest k u
    rw [ho] at hf
    rw [hf] at h1
    exact ⟨C', lam, a, cs, w', u, .head h0 h1, rfl, SR.of h2, s.later h3 h4, h4.wide _, .refl b cs, fun _ => rfl⟩
  | pan v h' up =>
    obtain ⟨C', w', u, h1, h2, h3, h4⟩ := h
    rw [Frame.raise_atR] at h1
    exact ⟨C', lam, a, cs, w', u, .head h0 h1, rfl, h2, s.later h3 h4, h4.wide _, .refl b cs, fun _ => rfl⟩
  | fail => trivial
theorem VR.func_inv {f : FuncId} {first capt : List AV} {v : Value} (h : VR C (.func (.func f) first capt) v) : ∃ vs ws, v = .func (.func f) vs ws ∧ VRs C first vs ∧ VRs C capt ws := by
  cases h with
  | func h1 h2 h3 h4 => exact ⟨_, _, rfl, ⟨h1, h2⟩, h3, h4⟩
theorem VR.yield_inv {id : Nat} {v : Value} (h : VR C (.yield id) v) : ∃ L, C.mu id = some L ∧ v = .func (.yield L.b) #[] #[] := by
  cases h with
  | yield h => exact ⟨_, h, rfl⟩
theorem St.callE {cl : FuncId → List AV → Heap → COut} {rd : Nat → List AV → Heap → COut} (hP : NoNum P) (hc : ClOK P cl) (hr : RdOK P rd) (s : St C lam ms F b a w cs) (ho : ops[i]? = some o) (hw : Region.wanted o (yielded ops a.tmps) = true) {c : Call} {f : Operand}
    (hop : o.op = .call c) (hf : c.callee = .value f) : OpRun P C lam ms F b a w cs ops i rest k (boxy o.op) o.dst (F.callE cl rd f c.args.toList) := by
  have hd : ∀ c', o.op ≠ .defer c' := fun c' e => by rw [hop] at e; cases e
  unfold Fr.callE
  split
  · rename_i fv l hfv hl
    have r1 := s.opv hfv
    have r2 := opvs_arr s hl
    by_cases hfail : callV cl rd fv l F.hp = .fail
    · rw [hfail]; trivial
    · unfold callV at hfail ⊢
      split at hfail
      · rename_i g first capt
        obtain ⟨vs, ws, e, rv, rw'⟩ := r1.func_inv
        obtain ⟨⟨fn, hfn, hb⟩, hans⟩ := hc g _ F.hp C w _ s.wr (VRs.append (VRs.append rv r2) rw') hfail
        refine s.answered ho (stepA_enter ho hw hd ?_) (hans _ cs)
        simp only [execOp, hop, resolve, hf, e, Deferred.ofValue, Sem.run_bind, Sem.run_pure, Result.andThen_ok, invoke, run_callFunc hP hfn hb]
      · rename_i id
        obtain ⟨L, hL, e⟩ := r1.yield_inv
        obtain ⟨g, tmps, assign, body, hrun, hans⟩ := hr id _ F.hp C w _ L s.wr r2 hL hfail
        refine s.answered ho (stepA_round ho hw hd ?_) (hans _ cs)
        simp only [execOp, hop, resolve, hf, e, Deferred.ofValue, Sem.run_bind, Sem.run_pure, Result.andThen_ok, invoke, Array.empty_append, hrun]
      · exact absurd rfl hfail
  · trivial
theorem St.panicOp {r : AV} {u : Value} (s : St C lam ms F b a w cs) (ho : ops[i]? = some o) (hw : Region.wanted o (yielded ops a.tmps) = true) (hd : ∀ c, o.op ≠ .defer c) (hr : VR C r u)
    (h : (execOp a.eval o).run P w = .halt (.panic u) w) : OpRun P C lam ms F b a w cs ops i rest k (boxy o.op) o.dst (.pan r F) :=
  ⟨C, lam, a, cs, w, u, .one (stepA_panic ho hw hd h), rfl, hr, s, .refl _ _ _ _, .refl b cs, fun _ => rfl⟩
theorem VR.iface_inv {t : TypeId} {x : AV} {v : Value} (h : VR C (.iface t x) v) : ∃ u, v = .iface t u ∧ VR C x u := by
  cases h with
  | iface h => exact ⟨_, rfl, h⟩
theorem St.panicE {x : Operand} (s : St C lam ms F b a w cs) (ho : ops[i]? = some o) (hw : Region.wanted o (yielded ops a.tmps) = true) (hd : ∀ c, o.op ≠ .defer c)
    (h : ∀ t u, a.eval x = .iface t u → (execOp a.eval o).run P w = .halt (.panic (.iface t u)) w) : OpRun P C lam ms F b a w cs ops i rest k (boxy o.op) o.dst (F.panicE x) := by
  unfold Fr.panicE
  split
  · rename_i t v hv
    obtain ⟨u, e, r⟩ := (s.opv hv).iface_inv
    refine s.panicOp ho hw hd (.iface r) (h t u e)
  · trivial
theorem methodOf_ok {t : TypeId} {name : String} {f : FuncId} (h : methodOf P t name = some f) (fuel : Nat) (v : Value) : (method (fuel + 1) t v name).run P w = .ok (f, v) w := by
  unfold methodOf at h
  split at h
  · cases h
  · rename_i i d hnp hi hu
    split at h
    · rename_i m hm
      split at h
      · rename_i hp
        split at h
        · rename_i f' hf
          cases h
          have hpe : m.path = #[] := by simpa using hp
          have hra : ∀ nm, (receiverAt t (.val v) false nm).run P w = .ok v w := fun nm => by
            simp only [receiverAt, Sem.run_bind, run_und hu, Result.andThen_ok]
            cases d <;> first | rfl | exact absurd rfl (hnp _)
          simp [method, run_info hi, hm, hpe, follow, hf, hra]
        · cases h
      · cases h
    · cases h
  · cases h
theorem St.invokeE {cl : FuncId → List AV → Heap → COut} (hP : NoNum P) (hc : ClOK P cl) (s : St C lam ms F b a w cs) (ho : ops[i]? = some o) (hw : Region.wanted o (yielded ops a.tmps) = true) {c : Call} {x : Operand} {name : String}
    (hop : o.op = .call c) (hf : c.callee = .invoke x name) : OpRun P C lam ms F b a w cs ops i rest k (boxy o.op) o.dst (F.invokeE P cl x name c.args.toList) := by
  have hd : ∀ c', o.op ≠ .defer c' := fun c' e => by rw [hop] at e; cases e
  unfold Fr.invokeE
  split
  · rename_i t v l hfv hl
    obtain ⟨u, e, r1⟩ := (s.opv hfv).iface_inv
    have r2 := opvs_arr s hl
    split
    · rename_i g hg
      by_cases hfail : cl g (v :: l) F.hp = .fail
      · rw [hfail]; trivial
      · have r3 := VRs.cons r1 r2
        obtain ⟨⟨fn, hfn, hb⟩, hans⟩ := hc g _ F.hp C w _ s.wr r3 hfail
        refine s.answered ho (stepA_enter ho hw hd ?_) (hans _ cs)
        have hm := fun fuel => methodOf_ok (w := w) hg fuel u
        have hdp : P.types.size + Made.depth = P.types.size + Made.depth - 1 + 1 := by simp [Made.depth]
        have hex : (#[Value.iface t u] ++ c.args.map a.eval).extract 1 (#[Value.iface t u] ++ c.args.map a.eval).size = c.args.map a.eval := by
          apply Array.ext'
          simp [List.take_of_length_le]
        have hget : (#[Value.iface t u] ++ c.args.map a.eval)[0]? = some (.iface t u) := by
          rw [Array.getElem?_append_left (by simp)]; rfl
        simp only [execOp, hop, resolve, hf, e, Sem.run_bind, Sem.run_pure, Result.andThen_ok, invoke, hget, callMethod, run_program, hex]
        rw [hdp, hm]
        simp only [Result.andThen_ok, run_callFunc hP hfn hb]
    · trivial
  · trivial
theorem St.recoverE (s : St C lam ms F b a w cs) (ho : ops[i]? = some o) (hw : Region.wanted o (yielded ops a.tmps) = true) (hd : ∀ c, o.op ≠ .defer c) (hr : (execOp a.eval o).run P w = .ok .recover w) :
    OpRun P C lam ms F b a w cs ops i rest k (boxy o.op) o.dst F.recoverE := by
  unfold Fr.recoverE
  split
  · trivial
  · rename_i hrnd
    have hro : b.roundOf = none := by
      have := s.rnd
      cases h : b.roundOf with
      | none => rfl
      | some l => rw [h] at this; simp at this; rw [← this] at hrnd; simp at hrnd
    have hup := s.up
    split
    · rename_i v hv
      rw [hv] at hup
      obtain ⟨h1, c, rest', u, rfl, h3, h4⟩ := hup
      have ht : tryRecover (b.atR a (.inRegion ops (i :: rest) :: k)) (c :: rest') = some (u, { c with mode := .panicking [{ v := u, recovered := true }] } :: rest') := by
        simp [tryRecover, Frame.atR, h1, h3]
      refine ⟨C, lam, a, _, w, u, .one (stepA_recover ho hw hd hro hr ht), rfl, SR.of h4, ?_, .refl _ _ _ _, .inr ⟨h1, c, rest', _, rfl, rfl⟩, fun _ => rfl⟩
      exact { s with up := ⟨h1, _, _, u, rfl, rfl, h4⟩ }
    · rename_i hv
      have ht : tryRecover (b.atR a (.inRegion ops (i :: rest) :: k)) cs = none := by
        cases hF : F.up with
        | none =>
          rw [hF] at hup
          rcases hup with h | ⟨h, c, rest', rfl, h2⟩
          · simp [tryRecover, Frame.atR, h]
          · simp [tryRecover, Frame.atR, h, h2]
        | some p =>
          obtain ⟨v, r⟩ := p
          rw [hF] at hup
          obtain ⟨h1, c, rest', u, rfl, h3, h4⟩ := hup
          cases r with
          | false => exact absurd hF (hv v)
          | true => simp [tryRecover, Frame.atR, h1, h3]
      exact ⟨C, lam, a, cs, w, .nilIface, .one (stepA_recover ho hw hd hro hr ht), rfl, SR.of .niliface, s, .refl _ _ _ _, .refl b cs, fun _ => rfl⟩
theorem St.appendE (s : St C lam ms F b a w cs) (ho : ops[i]? = some o) (hw : Region.wanted o (yielded ops a.tmps) = true) {c : Call} (hop : o.op = .call c) (hf : c.callee = .builtin .append) :
    OpRun P C lam ms F b a w cs ops i rest k (boxy o.op) o.dst (F.appendE P c.argTypes.toList c.args.toList) := by
  have hd : ∀ c', o.op ≠ .defer c' := fun c' e => by rw [hop] at e; cases e
  unfold Fr.appendE
  split
  · rename_i t u ts x y hts hl
    have r2 := opvs_arr s hl
    obtain ⟨xv, hxv, rx⟩ := r2.get (i := 0) rfl
    obtain ⟨yv, hyv, ry⟩ := r2.get (i := 1) rfl
    have hargs : c.args.map a.eval = #[xv, yv] := by
      apply Array.ext
      · exact r2.1
      · intro j h1 h2
        have : j = 0 ∨ j = 1 := by simp at h2; omega
        rcases this with rfl | rfl
        · have := hxv; rw [Array.getElem?_eq_getElem h1] at this; simpa using this
        · have := hyv; rw [Array.getElem?_eq_getElem h1] at this; simpa using this
    have h0 : c.argTypes[0]? = some t := by rw [← Array.getElem?_toList, hts]; rfl
    have h1 : c.argTypes[1]? = some u := by rw [← Array.getElem?_toList, hts]; rfl
    have fin : ∀ (new : List AV), (P.underlying u = some .string ∨ ∃ e', P.underlying u = some (.slice e')) → (∀ m, (∀ e ∈ new, e.cells.length = m) → m ≠ 0 → ElemsR P C w m new yv) →
        OpRun P C lam ms F b a w cs ops i rest k (boxy o.op) o.dst (okO (Go.AM.appendV P F t x new)) := by
      intro new hu hE
      cases hv : Go.AM.appendV P F t x new with
      | none => trivial
      | some p =>
        obtain ⟨v, F'⟩ := p
        obtain ⟨C', r, w', q1, q2, q3, q4⟩ := s.appendV (P := P) (ty := o.type) h0 h1 hu rx hE hv
        refine Eff.opRun ⟨C', lam, r, w', .inl ?_, q2, q3, q4, fun _ => rfl⟩ ho hw hd
        simp only [execOp, hop, resolve, hf, Sem.run_bind, Sem.run_pure, Result.andThen_ok, invoke, builtin, hargs, q1]
    split
    · rename_i hu
      split
      · rename_i str
        refine fin _ (.inl hu) fun m hm hm0 => ?_
        have e := ry.str_inv
        subst e
        by_cases hl0 : str = []
        · subst hl0
          have := ElemsR.str (P := P) (C := C) (w := w) []
          refine ⟨this.len, fun w1 _ => ⟨#[], VRs.nil C, ?_⟩, by simp⟩
          simp [Builtin.firstCells]
        · have : m = 1 := by
            cases str with
            | nil => exact absurd rfl hl0
            | cons x r => exact (hm _ (List.mem_cons_self ..)).symm
          subst this
          exact ElemsR.str str
      · trivial
    · rename_i e' hu
      split
      · trivial
      · split
        · rename_i new hnew
          exact fin _ (.inr ⟨e', hu⟩) fun m hm _ => s.elems ry hnew hm
        · trivial
    · trivial
  · trivial
theorem St.deferE (s : St C lam ms F b a w cs) (ho : ops[i]? = some o) (hw : Region.wanted o (yielded ops a.tmps) = true) {c : Call} (hop : o.op = .defer c) : OpRun P C lam ms F b a w cs ops i rest k (boxy o.op) o.dst (F.deferE c) := by
  unfold Fr.deferE
  split
  · rename_i f hf hrnd
    split
    · rename_i g first capt l hfv hl
      obtain ⟨vs, ws, e, rv, rw'⟩ := (s.opv hfv).func_inv
      have r2 := opvs_arr s hl
      have hro : b.roundOf = none := by
        have := s.rnd
        cases h : b.roundOf with
        | none => rfl
        | some l => rw [h, hrnd] at this; cases this
      refine ⟨C, lam, { a with defers := { target := .fn (.func g) ws, args := vs ++ c.args.map a.eval } :: a.defers }, cs, w, undef, .one (stepA_defer ho hw hro ?_), rfl, SR.of (VRundef C), ?_, .refl _ _ _ _, .refl b cs, fun _ => rfl⟩
      · simp only [execOp, hop, resolve, hf, e, Deferred.ofValue, Sem.run_bind, Sem.run_pure, Result.andThen_ok]
      · exact { s with df := .fn s.df (VRs.append rv r2) rw' }
    · trivial
  · trivial
theorem ef_sound {X : Ctx} {cl : FuncId → List AV → Heap → COut} {rd : Nat → List AV → Heap → COut} (hP : NoNum X.P) (hc : ClOK X.P cl) (hr : RdOK X.P rd) (s : St C lam ms F b a w cs) (ho : ops[i]? = some o)
    (hw : Region.wanted o (yielded ops a.tmps) = true) : OpRun X.P C lam ms F b a w cs ops i rest k (boxy o.op) o.dst (efV X cl rd F o.dst o.op) := by
  have eff : ∀ {r : OOut}, (∀ v F', r = .val v F' → Eff X.P C lam ms F b a w cs o v F') → (∀ v F', r ≠ .pan v F') → (∀ c, o.op ≠ .defer c) → OpRun X.P C lam ms F b a w cs ops i rest k (boxy o.op) o.dst r := by
    intro r h1 h2 hd
    cases r with
    | val v F' => exact (h1 v F' rfl).opRun ho hw hd
    | pan v F' => exact absurd rfl (h2 v F')
    | fail => trivial
  suffices main : ∀ op, o.op = op → OpRun X.P C lam ms F b a w cs ops i rest k (boxy o.op) o.dst (efV X cl rd F o.dst op) from main _ rfl
  intro op hop
  cases op <;> simp only [efV] <;> try trivial
  case alloc t => exact eff (fun v F' h => s.allocE hop h) (fun v F' h => by unfold Fr.allocE at h; split at h; exact okO_pan h; cases h) (fun c e => by rw [hop] at e; cases e)
  case box t x => exact eff (fun v F' h => s.boxE hop h) (fun v F' h => by unfold Fr.boxE at h; split at h; exact okO_pan h; cases h) (fun c e => by rw [hop] at e; cases e)
  case store t x y => exact eff (fun v F' h => s.storeE hop h) (fun v F' h => by unfold Fr.storeE at h; (repeat' split at h) <;> cases h) (fun c e => by rw [hop] at e; cases e)
  case buildSlice t n ps => exact eff (fun v F' h => s.rowE hop h) (fun v F' h => by unfold Fr.rowE at h; (repeat' split at h) <;> cases h) (fun c e => by rw [hop] at e; cases e)
  case makeMap t r => exact eff (fun v F' h => s.mapE hop h) (fun v F' h => by unfold Fr.mapE at h; (repeat' split at h) <;> cases h) (fun c e => by rw [hop] at e; cases e)
  case makeSlice t l c => exact eff (fun v F' h => s.makeSliceE hop h) (fun v F' h => by unfold Fr.makeSliceE at h; (repeat' split at h) <;> cases h) (fun c e => by rw [hop] at e; cases e)
  case mapUpdate t m k x => exact eff (fun v F' h => s.mapUpdateE hop h) (fun v F' h => by unfold Fr.mapUpdateE at h; (repeat' split at h) <;> cases h) (fun c e => by rw [hop] at e; cases e)
  case range t x => exact eff (fun v F' h => s.rangeE hop h) (fun v F' h => by unfold Fr.rangeE at h; (repeat' split at h) <;> cases h) (fun c e => by rw [hop] at e; cases e)
  case next x st => exact eff (fun v F' h => s.nextE hop h) (fun v F' h => by unfold Fr.nextE at h; (repeat' split at h) <;> cases h) (fun c e => by rw [hop] at e; cases e)
  case defer c => exact s.deferE ho hw hop
  case panic x =>
    refine s.panicE ho hw (fun c e => by rw [hop] at e; cases e) fun t u e => ?_
    simp only [execOp, hop, e, Instr.panic, Sem.run_bind, run_goPanic, Result.andThen_halt]
  case call c =>
    unfold Fr.callOp
    have hd : ∀ c', o.op ≠ .defer c' := fun c' e => by rw [hop] at e; cases e
    split
    · rename_i f hf; exact s.callE hP hc hr ho hw hop hf
    · rename_i x name hf; exact s.invokeE hP hc ho hw hop hf
    · rename_i bi hf
      unfold Fr.builtinE
      split
      · exact s.appendE ho hw hop hf
      · split
        · rename_i x hx
          refine s.panicE ho hw hd fun t u e => ?_
          have hargs : (c.args.map a.eval).getD 0 .nilIface = .iface t u := by
            have : c.args = #[x] := Array.toList_inj.1 hx
            rw [this]
            simp [Array.getD, e]
          simp only [execOp, hop, resolve, hf, Sem.run_bind, Sem.run_pure, Result.andThen_ok, invoke, builtin, hargs, Instr.panic, run_goPanic, Result.andThen_halt]
        · trivial
      · split
        · refine s.recoverE ho hw hd ?_
          simp only [execOp, hop, resolve, hf, Sem.run_bind, Sem.run_pure, Result.andThen_ok, invoke, builtin]
        · trivial
      · trivial
end
end Go.AM
set_option linter.unusedSimpArgs false
set_option linter.unusedVariables false
set_option linter.unusedSectionVars false
namespace Go.AM
open Go
variable [Keep]
def Fin (C : Cfg) (lam : Nat → Option Nat) (ms : List Nat) (F : Fr) (b : Frame) (a : Act) (w : World) (cs : List Frame) (F' : Fr) (C' : Cfg) (lam' : Nat → Option Nat) (ms' : List Nat) (a' : Act) (cs' : List Frame) (w' : World) : Prop :=
  a'.tmps.size = a.tmps.size ∧ St C' lam' ms' F' b a' w' cs' ∧ Ext C F.hp (Own lam ms) w C' F'.hp (Own lam' ms') w' ∧ CsR b cs cs'
def Outs (P : Program) (m : Machine) (C : Cfg) (lam : Nat → Option Nat) (ms : List Nat) (F : Fr) (b : Frame) (a : Act) (w : World) (cs : List Frame) (k : List Item) : Out → Prop
  | .norm F' => ∃ C' lam' ms' a' cs' w', Steps P m (lone (b.atR a' k) cs' w') ∧ Fin C lam ms F b a w cs F' C' lam' ms' a' cs' w'
  | .exit id F' => ∃ C' lam' ms' a' cs' w' k1, Steps P m (lone (b.atR a' (.code (.exit id) :: k1)) cs' w') ∧ exitTo id k1 = exitTo id k ∧ Fin C lam ms F b a w cs F' C' lam' ms' a' cs' w'
  | .ret F' => ∃ C' lam' ms' a' cs' w' k1, Steps P m (lone (b.atR a' (.code .ret :: k1)) cs' w') ∧ Fin C lam ms F b a w cs F' C' lam' ms' a' cs' w'
  | .pan v F' => ∃ C' lam' ms' a' cs' w' todo u, Steps P m (lone { b.atR a' todo with mode := Pan u } cs' w') ∧ VR C' v u ∧ Fin C lam ms F b a w cs F' C' lam' ms' a' cs' w'
  | .fail => True
def CodeOK (P : Program) (ev : Code → Fr → Out) : Prop :=
  ∀ (c : Code) (F : Fr) (C : Cfg) (lam : Nat → Option Nat) (ms : List Nat) (b : Frame) (a : Act) (w : World) (cs : List Frame) (k : List Item), St C lam ms F b a w cs → codeOk a.tmps.size c = true →
    Outs P (lone (b.atR a (.code c :: k)) cs w) C lam ms F b a w cs k (ev c F)
section
variable {P : Program} {w w' : World} {C : Cfg} {lam : Nat → Option Nat} {ms : List Nat} {F : Fr} {b : Frame} {a : Act} {cs : List Frame} {k : List Item}
theorem Fin.refl (s : St C lam ms F b a w cs) : Fin C lam ms F b a w cs F C lam ms a cs w := ⟨rfl, s, .refl _ _ _ _, .refl b cs⟩
theorem Fin.trans {F' F'' : Fr} {C' C'' : Cfg} {lam' lam'' : Nat → Option Nat} {ms' ms'' : List Nat} {a' a'' : Act} {cs' cs'' : List Frame} {w' w'' : World} (h : Fin C lam ms F b a w cs F' C' lam' ms' a' cs' w')
    (h' : Fin C' lam' ms' F' b a' w' cs' F'' C'' lam'' ms'' a'' cs'' w'') : Fin C lam ms F b a w cs F'' C'' lam'' ms'' a'' cs'' w'' :=
  ⟨h'.1.trans h.1, h'.2.1, h.2.2.1.trans h'.2.2.1, h.2.2.2.trans h'.2.2.2⟩
theorem Outs.head {F1 : Fr} {C1 : Cfg} {lam1 : Nat → Option Nat} {ms1 : List Nat} {a1 : Act} {cs1 : List Frame} {w1 : World} {m m1 : Machine} {o : Out} (hs : Steps P m m1) (hf : Fin C lam ms F b a w cs F1 C1 lam1 ms1 a1 cs1 w1)
    (h : Outs P m1 C1 lam1 ms1 F1 b a1 w1 cs1 k o) : Outs P m C lam ms F b a w cs k o := by
  cases o with
  | norm F' => obtain ⟨C', lam', ms', a', cs', w', h1, h2⟩ := h; exact ⟨C', lam', ms', a', cs', w', hs.trans h1, hf.trans h2⟩
  | exit id F' => obtain ⟨C', lam', ms', a', cs', w', k1, h1, h3, h2⟩ := h; exact ⟨C', lam', ms', a', cs', w', k1, hs.trans h1, h3, hf.trans h2⟩
  | ret F' => obtain ⟨C', lam', ms', a', cs', w', k1, h1, h2⟩ := h; exact ⟨C', lam', ms', a', cs', w', k1, hs.trans h1, hf.trans h2⟩
  | pan v F' => obtain ⟨C', lam', ms', a', cs', w', todo, u, h1, h3, h2⟩ := h; exact ⟨C', lam', ms', a', cs', w', todo, u, hs.trans h1, h3, hf.trans h2⟩
  | fail => trivial
theorem Outs.behind {x : Item} {m : Machine} {o : Out} (hx : ∀ id, exitTo id (x :: k) = exitTo id k) (hn : ∀ F', o ≠ .norm F') (h : Outs P m C lam ms F b a w cs (x :: k) o) : Outs P m C lam ms F b a w cs k o := by
  cases o with
  | norm F' => exact absurd rfl (hn F')
  | exit id F' => obtain ⟨C', lam', ms', a', cs', w', k1, h1, h3, h2⟩ := h; exact ⟨C', lam', ms', a', cs', w', k1, h1, h3.trans (hx id), h2⟩
  | ret F' => exact h
  | pan v F' => exact h
  | fail => trivial
theorem yielded_ok (s : St C lam ms F b a w cs) {ops : Array Oper} {o o' : Oper} {j : Nat} {want : Bool} (hg : o.guard = some (j, want)) (h : guardOk ops F o = true) : yielded ops a.tmps j = yieldedA ops F j := by
  unfold guardOk at h
  rw [hg] at h
  simp only at h
  unfold yielded yieldedA
  cases hj : ops[j]? with
  | none => rfl
  | some p =>
    rw [hj] at h
    simp only [Option.bind_some] at h ⊢
    cases hd : p.dst with
    | none => rfl
    | some t =>
      rw [hd] at h
      simp only [Option.bind_some] at h ⊢
      have hs := s.env t
      have e1 : F.tmp t = match F.e.get t with | some v => v | none => undefA := rfl
      have key : ∀ (v : Value), a.tmps.getD t undef = v → (∀ bb, v ≠ .bool bb) → (match a.tmps[t]? with | some (.bool b) => some b | _ => none) = (none : Option Bool) := by
        intro v hv hne
        rw [Array.getD_eq_getD_getElem?] at hv
        cases ht : a.tmps[t]? with
        | none => rfl
        | some u =>
          rw [ht] at hv
          simp at hv
          subst hv
          cases u <;> first | rfl | exact absurd rfl (hne _)
      cases he : F.e.get t with
      | none =>
        rw [e1, he] at hs
        refine key _ rfl fun bb e => ?_
        rw [e] at hs
        cases hs
      | some v =>
        rw [e1, he] at hs
        simp only at hs
        cases v with
        | bool bb =>
          cases hs' : a.tmps.getD t undef with
          | bool b2 =>
            rw [hs'] at hs
            have : b2 = bb := by
              have h2 : VR C (.bool bb) (.bool b2) := hs
              cases h2; rfl
            subst this
            rw [Array.getD_eq_getD_getElem?] at hs'
            cases ht : a.tmps[t]? with
            | none => rw [ht] at hs'; simp [undef] at hs'
            | some u => rw [ht] at hs'; simp at hs'; subst hs'; rfl
          | _ => rw [hs'] at hs; have h2 : VR C (.bool bb) _ := hs; cases h2
        | junk => rw [he] at h; simp at h
        | lptr s' g off =>
          refine key _ rfl fun bb e => ?_
          obtain ⟨_, _, _, _, _, h3, _⟩ := hs
          rw [h3] at e; cases e
        | _ =>
          refine key _ rfl fun bb e => ?_
          rw [e] at hs
          have h2 : VR C _ _ := hs
          cases h2
theorem wanted_ok (s : St C lam ms F b a w cs) {ops : Array Oper} {o : Oper} (h : guardOk ops F o = true) : Region.wanted o (yielded ops a.tmps) = wantedA ops F o := by
  unfold Region.wanted wantedA
  cases hg : o.guard with
  | none => rfl
  | some p =>
    obtain ⟨j, want⟩ := p
    simp only
    rw [yielded_ok s (o' := o) hg h]
def StepRun (P : Program) (C : Cfg) (lam : Nat → Option Nat) (ms : List Nat) (F : Fr) (b : Frame) (a : Act) (w : World) (cs : List Frame) (ops : Array Oper) (i : Nat) (rest : List Nat) (k : List Item) (bx : Bool) : OOut → Prop
  | .val v F' => ∃ C' lam' a' cs' w', Steps P (lone (b.atR a (.inRegion ops (i :: rest) :: k)) cs w) (lone (b.atR a' (.inRegion ops rest :: k)) cs' w') ∧ Fin C lam ms F b a w cs F' C' lam' ms a' cs' w' ∧ (bx = false → lam' = lam)
  | .pan v F' => ∃ C' lam' a' cs' w' u, Steps P (lone (b.atR a (.inRegion ops (i :: rest) :: k)) cs w) (lone { b.atR a' (.inRegion ops (i :: rest) :: k) with mode := Pan u } cs' w') ∧ VR C' v u ∧ Fin C lam ms F b a w cs F' C' lam' ms a' cs' w' ∧ (bx = false → lam' = lam)
  | .fail => True
theorem fin_hp (F : Fr) (d : Option Tmp) (v : AV) : (F.put d v).hp = F.hp := by cases d <;> rfl
theorem fin_put_op {F' : Fr} {C' : Cfg} {lam' : Nat → Option Nat} {a' : Act} {cs' : List Frame} {w' : World} {d : Option Tmp} {v : AV} {u : Value} (ht : a'.tmps = a.tmps) (hd : ∀ t, d = some t → t < a.tmps.size) (hr : SR C' lam' F'.lm v u)
    (hs : St C' lam' ms F' b a' w' cs') (he : Ext C F.hp (Own lam ms) w C' F'.hp (Own lam' ms) w') (hc : CsR b cs cs') : Fin C lam ms F b a w cs (F'.put d v) C' lam' ms (a'.put d u) cs' w' :=
  ⟨by rw [Act.put_size, ht], hs.put hr (fun t e => by rw [ht]; exact hd t e), by rw [fin_hp]; exact he, hc⟩
theorem stepOp_ok {X : Ctx} {cl : FuncId → List AV → Heap → COut} {rd : Nat → List AV → Heap → COut} (hP : NoNum X.P) (hc : ClOK X.P cl) (hr : RdOK X.P rd) (s : St C lam ms F b a w cs) {ops : Array Oper} {i : Nat} {rest : List Nat} {o : Oper}
    (ho : ops[i]? = some o) (hd : ∀ t, o.dst = some t → t < a.tmps.size) (hal : isAlloc o = true → isEffAt X F.f o = true) : StepRun X.P C lam ms F b a w cs ops i rest k (boxy o.op) (stepOp X cl rd ops o F) := by
  unfold stepOp
  split
  · trivial
  · rename_i hg
    have hg : guardOk ops F o = true := by simpa using hg
    have hw := wanted_ok s hg
    split
    · rename_i hwa
      rw [hwa] at hw
      split
      · have := ef_sound (k := k) (rest := rest) hP hc hr s ho hw
        split
        · rename_i v F' e
          rw [e] at this
          obtain ⟨C', lam', a', cs', w', u, h1, h2, h3, h4, h5, h6, h7⟩ := this
          exact ⟨C', lam', _, cs', w', h1, fin_put_op h2 hd h3 h4 h5 h6, h7⟩
        · rename_i r hne
          revert this
          cases hr : efV X cl rd F o.dst o.op with
          | val v F' => intro _; exact absurd hr (hne v F')
          | pan v F' =>
            intro this
            obtain ⟨C', lam', a', cs', w', u, h1, h2, h3, h4, h5, h6, h7⟩ := this
            exact ⟨C', lam', a', cs', w', u, h1, h3, ⟨by rw [h2], h4, h5, h6⟩, h7⟩
          | fail => intro _; trivial
      · rename_i hne
        split
        · rename_i v hv
          have hna : isAlloc o = false := by
            cases h : isAlloc o with
            | false => rfl
            | true => exact absurd (hal h) hne
          obtain ⟨u, w', C', h1, h2, h3, h4⟩ := rd_sound s hna hv
          have hdf : ∀ c, o.op ≠ .defer c := fun c e => by rw [e] at hv; simp [rdV] at hv
          exact ⟨C', lam, _, cs, w', .one (stepA_value ho hw hdf h1), fin_put_op rfl hd h2 h3 h4 (.refl b cs), fun _ => rfl⟩
        · trivial
    · rename_i hwa
      have hwf : wantedA ops F o = false := by simpa using hwa
      rw [hwf] at hw
      have hst := stepR_op_skip (P := X.P) (b := b) (a := a) (k := k) (cs := cs) (w := w) (ops := ops) (i := i) (rest := rest) (by rw [ho]; simp [hw])
      rw [ho] at hst
      exact ⟨C, lam, _, cs, w, .one hst, fin_put_op rfl hd (SR.of (VRundef C)) s (.refl _ _ _ _) (.refl b cs), fun _ => rfl⟩
theorem runOps_ok {X : Ctx} {cl : FuncId → List AV → Heap → COut} {rd : Nat → List AV → Heap → COut} (hP : NoNum X.P) (hc : ClOK X.P cl) (hr : RdOK X.P rd) {ops : Array Oper} :
    ∀ (l : List Oper) (i : Nat) (C : Cfg) (lam : Nat → Option Nat) (ms : List Nat) (F : Fr) (a : Act) (w : World) (cs : List Frame), St C lam ms F b a w cs → (∀ j o, l[j]? = some o → ops[i + j]? = some o) → dstsLt a.tmps.size l = true →
      Outs X.P (lone (b.atR a (.inRegion ops (List.range' i l.length) :: k)) cs w) C lam ms F b a w cs k (runOps X cl rd ops l F) := by
  intro l
  induction l with
  | nil => intro i C lam ms F a w cs s _ _; exact ⟨C, lam, ms, a, cs, w, .one stepR_region_end, .refl s⟩
  | cons o l ih =>
    intro i C lam ms F a w cs s hl hd
    simp only [dstsLt, List.all_cons, Bool.and_eq_true] at hd
    have ho : ops[i]? = some o := by have := hl 0 o rfl; simpa using this
    have hdst : ∀ t, o.dst = some t → t < a.tmps.size := fun t e => by have := hd.1; rw [e] at this; simpa using this
    have h1 := stepOp_ok (X := X) (k := k) (rest := List.range' (i + 1) l.length) hP hc hr s ho hdst (fun h => by
      unfold isAlloc at h
      unfold isEffAt
      split at h
      · rename_i t e; rw [e]
      · cases h)
    simp only [runOps, List.length_cons, List.range'_succ]
    split
    · rename_i v F' e
      rw [e] at h1
      obtain ⟨C', lam', a', cs', w', h2, h3, _⟩ := h1
      refine Outs.head h2 h3 (ih (i + 1) C' lam' ms F' a' w' cs' h3.2.1 (fun j o' hj => by
        have := hl (j + 1) o' (by simpa using hj)
        rwa [show i + (j + 1) = i + 1 + j from by omega] at this) (by rw [h3.1]; exact hd.2))
    · rename_i v F' e
      rw [e] at h1
      obtain ⟨C', lam', a', cs', w', u, h2, h4, h3, _⟩ := h1
      exact ⟨C', lam', ms, a', cs', w', _, u, h2, h4, h3⟩
    · trivial
end
end Go.AM
