/-
  Texts of the proof: an evaluator of the program's code, its soundness, contracts of functions.
-/
import Derived.Test.YtlhcjccaimmhgaaGreatDoorPAC
import Derived.Defers
import Derived.RangeFuncLeaves
set_option linter.unusedSimpArgs false
set_option linter.unusedVariables false
set_option linter.unusedSectionVars false
namespace Go.AM
open Go
variable [Keep]
section
variable {P : Program} {w w' : World} {C : Cfg} {lam : Nat → Option Nat} {ms : List Nat} {F : Fr} {b : Frame} {a : Act} {cs : List Frame} {k : List Item}
theorem Ext.close {C C' : Cfg} {h h' : Heap} {w w' : World} {O O' : Nat → Prop} (e : Ext C h O w C' h' O' w') (hO : ∀ β, ¬ O β) : Ext C h (fun _ => False) w C' h' (fun _ => False) w' where
  le := e.le
  os := e.os
  tape := e.tape
  output := e.output
  size := e.size
  same β hb hl _ := e.same β hb hl (hO β)
  live β hb l := (e.live β hb l).imp id fun o => (hO β o).elim
  own _ _ o := o.elim
  sig x v hb s := by
    rcases e.sig x v hb s with s | l | o
    · exact .inl s
    · exact .inr (.inl l)
    · exact (hO _ o).elim
  next := e.next
theorem own_none (β : Nat) : ¬ Own (fun _ => none) [] β := by
  rintro (⟨s, h⟩ | h)
  · cases h
  · simp at h
def Frozen (C : Cfg) (h : Heap) (w : World) (v' : AV) (u : Value) (h' : Heap) : Prop := ∃ C', VR C' v' u ∧ WR C' h' w ∧ Ext C h (fun _ => False) w C' h' (fun _ => False) w
def sigOver (C : Cfg) (B : Nat) (c : Array Value) : Cfg := { C with sig := fun x => if x.block = B ∧ x.spot = none then c[x.off]? else C.sig x }
theorem frz1_ok {h h' : Heap} {v v' : AV} {u : Value} (r : WR C h w) (hv : VR C v u) (h1 : frz1 h v = some (v', h')) : Frozen C h w v' u h' := by
  unfold frz1 at h1
  split at h1
  · rename_i id off len
    split at h1
    · rename_i sz el hg
      split at h1
      · rename_i hle
        cases h1
        obtain ⟨L, e1, c, f1, f2, f3, f4, f5⟩ := r.blk id _ hg
        have hlv : Live C h L.b := ⟨id, _, L, hg, e1, rfl⟩
        have hCle : C.le (sigOver C L.b c) := ⟨fun _ _ h => h, fun x y hx => by
          have := r.apart id _ L x y hg e1 hx
          simp only [sigOver]
          rw [if_neg (fun e => this e.1)]
          exact hx⟩
        obtain ⟨r1, x1⟩ := WR.del r id
        have hget : ∀ j bj, (h.del id).get j = some bj → j ≠ id ∧ h.get j = some bj := fun j bj hj => by
          rw [Heap.get_del] at hj
          split at hj
          · cases hj
          · rename_i hne; exact ⟨fun e => hne e.symm, hj⟩
        refine ⟨sigOver C L.b c, ?_, ⟨fun x y hx => ?_, fun j bj hj => ?_, fun j1 j2 b1 b2 L1 L2 g1 g2 => r1.inj j1 j2 b1 b2 L1 L2 g1 g2, fun j bj Lj x y hj hLj hx => ?_, r1.fresh, r.base.on hCle.sig (fun _ _ _ => rfl)⟩, ?_⟩
        · cases hv with
          | row A e2 k1 k2 k3 =>
            rename_i cap L'
            rw [e1] at e2
            cases e2
            have hlen : ((el.drop off).take len).length = len := by simp; omega
            rcases k2 with rfl | rfl
            · have : len = 0 := by omega
              subst this
              have : (el.drop off).take 0 = [] := rfl
              rw [this]
              exact .vslice0 _ _
            · have hf : FlatR (sigOver C L.b c) sz ((el.drop off).take len) c (L.o + off * sz) := fun i e hi => by
                rw [List.getElem?_take] at hi
                split at hi
                · rw [List.getElem?_drop] at hi
                  obtain ⟨q1, q2, q3⟩ := f5 (off + i) e hi
                  refine ⟨q1, q2, fun j x hx => ?_⟩
                  obtain ⟨y, hy, hr⟩ := q3 j x hx
                  refine ⟨y, ?_, hr.mono hCle⟩
                  rw [← hy, Nat.add_mul]
                  congr 1
                  omega
                · cases hi
              have hbd : L.o + off * sz + ((el.drop off).take len).length * sz ≤ c.size := by
                rw [hlen]
                have : (off + len) * sz ≤ el.length * sz := Nat.mul_le_mul_right _ hle
                rw [Nat.add_mul] at this
                omega
              have := slice_of_flat (C := sigOver C L.b c) (B := L.b) (o := L.o + off * sz) (cap := cap) hf (fun k hk => by simp [sigOver]) (by rw [hlen]; exact k1) hbd
              rw [hlen] at this
              rw [f2]
              exact this
        · simp only [sigOver] at hx
          split at hx
          · rename_i hb
            obtain ⟨xb, xo, xs⟩ := x
            simp only at hb hx
            obtain ⟨rfl, rfl⟩ := hb
            rw [f1.cell]
            exact hx
          · exact r.sig x y hx
        · obtain ⟨Lj, k1, k2⟩ := r1.blk j bj hj
          exact ⟨Lj, k1, k2.same hCle rfl⟩
        · obtain ⟨hne, hj'⟩ := hget j bj hj
          simp only [sigOver] at hx
          split at hx
          · rename_i hb
            intro e
            exact hne (r.inj j id bj _ Lj L hj' hg hLj e1 (e.symm.trans hb.1))
          · exact r.apart j bj Lj x y hj' hLj hx
        · exact { le := hCle, os := rfl, tape := rfl, output := rfl, size := Nat.le_refl _, same := fun _ _ _ _ => rfl, live := fun β hb l => x1.live β hb l, own := fun _ _ o => o.elim,
                  sig := fun x y _ hx => by
                    simp only [sigOver] at hx
                    split at hx
                    · rename_i hb; exact .inr (.inl (hb.1 ▸ hlv))
                    · exact .inl hx, next := Nat.le_refl _ }
      · cases h1
    · cases h1
  · cases h1
    exact ⟨C, hv, r, .refl _ _ _ _⟩
theorem frzCells_ok {f : Heap → AV → Option (AV × Heap)} (hf : ∀ (C : Cfg) (h h' : Heap) (v v' : AV) (u : Value), WR C h w → VR C v u → f h v = some (v', h') → Frozen C h w v' u h') :
    ∀ (l l' : List AV) (C : Cfg) (h h' : Heap) (us : Array Value), WR C h w → VRs C l us → frzCells h f l = some (l', h') → ∃ C', VRs C' l' us ∧ WR C' h' w ∧ Ext C h (fun _ => False) w C' h' (fun _ => False) w ∧ l'.length = l.length := by
  intro l
  induction l with
  | nil => intro l' C h h' us r hv e; simp [frzCells] at e; obtain ⟨rfl, rfl⟩ := e; exact ⟨C, hv, r, .refl _ _ _ _, rfl⟩
  | cons x l ih =>
    intro l' C h h' us r hv e
    simp only [frzCells] at e
    split at e
    · rename_i v1 h1 e1
      split at e
      · rename_i l1 h2 e2
        cases e
        obtain ⟨u0, hu0, r0⟩ := hv.get (i := 0) rfl
        obtain ⟨C1, q1, q2, q3⟩ := hf C h h1 x v1 u0 r r0 e1
        have hne : 0 < us.size := by rw [hv.1]; simp
        have htl : VRs C l (us.extract 1 us.size) := by
          refine VRs.of_get (by simp [hv.1]) fun i y hy => ?_
          obtain ⟨u, hu, hr⟩ := hv.get (i := i + 1) (by simpa using hy)
          refine ⟨u, ?_, hr⟩
          rw [Array.getElem?_extract, if_pos (by have := lt_of_get hy; rw [hv.1]; simp; omega), Nat.add_comm]
          exact hu
        obtain ⟨C2, p1, p2, p3, p4⟩ := ih l1 C1 h1 h' _ q2 (htl.mono q3.le) e2
        refine ⟨C2, ?_, p2, q3.trans p3, by simp [p4]⟩
        have := VRs.cons (q1.mono p3.le) p1
        have e3 : #[u0] ++ us.extract 1 us.size = us := by
          have h0 : us[0]'hne = u0 := by rw [Array.getElem?_eq_getElem hne] at hu0; simpa using hu0
          apply Array.ext'
          have hl : us.toList = us[0]'hne :: us.toList.drop 1 := by
            cases hus : us.toList with
            | nil => have : us.size = 0 := by rw [← Array.length_toList, hus]; rfl
                     omega
            | cons y r => have : us[0]'hne = y := by simp [← Array.getElem_toList, hus]
                          rw [this]; rfl
          simp [h0]
          rw [hl, h0]
          simp [List.take_of_length_le]
        rw [e3] at this
        exact this
      · cases e
    · cases e
theorem frzCells_one {h h' : Heap} : ∀ {l l' : List AV} {h h' : Heap}, frzCells h frz1 l = some (l', h') → (∀ x ∈ l, x.one = true) → ∀ x ∈ l', x.one = true := by
  intro l
  induction l with
  | nil => intro l' h h' e _; simp [frzCells] at e; obtain ⟨rfl, rfl⟩ := e; simp
  | cons x l ih =>
    intro l' h h' e h1
    simp only [frzCells] at e
    split at e
    · rename_i v1 h1' e1
      split at e
      · rename_i l1 h2 e2
        cases e
        have hx := h1 x (by simp)
        have hv1 : v1.one = true := by
          unfold frz1 at e1
          split at e1
          · split at e1
            · split at e1
              · cases e1; rfl
              · cases e1
            · cases e1
          · cases e1; exact hx
        intro y hy
        rcases List.mem_cons.1 hy with rfl | hy
        · exact hv1
        · exact ih e2 (fun z hz => h1 z (by simp [hz])) y hy
      · cases e
    · cases e
theorem frz2_ok (C : Cfg) (h h' : Heap) (v v' : AV) (u : Value) (r : WR C h w) (hv : VR C v u) (h1 : frz2 h v = some (v', h')) : Frozen C h w v' u h' := by
  unfold frz2 at h1
  split at h1
  · rename_i cs
    split at h1
    · rename_i l h2 e
      cases h1
      obtain ⟨us, rfl, rv, ro⟩ := hv.agg_inv
      obtain ⟨C', q1, q2, q3, _⟩ := frzCells_ok (w := w) (fun C h h' v v' u r hv e => frz1_ok r hv e) _ _ C h h' us r rv e
      exact ⟨C', .agg q1.1 q1.2 (frzCells_one (h := h) (h' := h') e ro), q2, q3⟩
    · cases h1
  · exact frz1_ok r hv h1
theorem VR.tuple_inv {l : List AV} {v : Value} (h : VR C (.tuple l) v) : ∃ vs, v = .tuple vs ∧ VRs C l vs := by
  cases h with
  | tuple h1 h2 => exact ⟨_, rfl, h1, h2⟩
theorem freeze_ok {h h' : Heap} {v v' : AV} {u : Value} (r : WR C h w) (hv : VR C v u) (h1 : freeze h v = some (v', h')) : Frozen C h w v' u h' := by
  unfold freeze at h1
  split at h1
  · rename_i vs
    split at h1
    · rename_i l h2 e
      cases h1
      obtain ⟨us, rfl, rv⟩ := hv.tuple_inv
      obtain ⟨C', q1, q2, q3, _⟩ := frzCells_ok (w := w) (fun C h h' v v' u r hv e => frz2_ok C h h' v v' u r hv e) _ _ C h h' us r rv e
      exact ⟨C', .tuple q1.1 q1.2, q2, q3⟩
    · cases h1
  · exact frz2_ok C h h' v v' u r hv h1
end
end Go.AM
set_option linter.unusedSimpArgs false
set_option linter.unusedVariables false
set_option linter.unusedSectionVars false
namespace Go.AM
open Go
variable [Keep]
section
variable {P : Program} {w w' : World} {C : Cfg} {lam : Nat → Option Nat} {ms : List Nat} {F : Fr} {b : Frame} {a : Act} {cs : List Frame} {k : List Item}
def resM (tmps : Array Value) : ResultVar → Sem Value
  | .tmp t => pure (tmps.getD t undef)
  | .cell a t => do loadVar t (← asAddr (tmps.getD a undef))
theorem resultV_ok (s : St C lam ms F b a w cs) {r : ResultVar} {v : AV} (h : resultV P F r = some v) : ∃ u, (resM a.tmps r).run P w = .ok u w ∧ VR C v u := by
  cases r with
  | tmp t => exact ⟨_, rfl, s.opv (x := .tmp t) h⟩
  | cell x t =>
    simp only [resultV] at h
    split at h
    · rename_i cells off hm
      obtain ⟨B, O, e, hr⟩ := s.mem (s.env x) hm
      obtain ⟨u, h1, h2⟩ := run_loadVar (P := P) hr h
      refine ⟨u, ?_, h2⟩
      simp only [resM, e, asAddr, Sem.run_bind, Sem.run_pure, Result.andThen_ok, h1]
    · cases h
theorem resultsV_ok (s : St C lam ms F b a w cs) : ∀ (rs : List ResultVar) (l : List AV), resultsV P F rs = some l → ∃ us : List Value, (rs.mapM (resM a.tmps)).run P w = .ok us w ∧ VRs C l us.toArray := by
  intro rs
  induction rs with
  | nil => intro l h; simp [resultsV] at h; subst h; exact ⟨[], rfl, VRs.nil C⟩
  | cons r rs ih =>
    intro l h
    simp only [resultsV] at h
    split at h
    · rename_i v l' h1 h2
      cases h
      obtain ⟨u, q1, q2⟩ := resultV_ok s h1
      obtain ⟨us, p1, p2⟩ := ih l' h2
      refine ⟨u :: us, ?_, by simpa using VRs.cons q2 p2⟩
      simp [List.mapM_cons, q1, p1]
    · cases h
theorem results_ok (s : St C lam ms F b a w cs) {fn : Func} {l : List AV} (h : resultsV P F fn.results.toList = some l) : ∃ u, (results fn a.tmps).run P w = .ok u w ∧ VR C (tupleOf l) u := by
  obtain ⟨us, h1, h2⟩ := resultsV_ok s _ _ h
  have hm : (fn.results.mapM (resM a.tmps)).run P w = .ok us.toArray w := by
    rw [Array.mapM_eq_mapM_toList]
    simp only [Sem.run_map, h1, Result.andThen_ok]
  have hres : (results fn a.tmps).run P w = .ok (if h : us.toArray.size = 1 then us.toArray[0] else .tuple us.toArray) w := by
    have e : results fn a.tmps = (do let vs ← fn.results.mapM (resM a.tmps); pure (if h : vs.size = 1 then vs[0] else .tuple vs)) := by
      unfold results
      have : (fun r : ResultVar => (match r with | .tmp t => pure (a.tmps.getD t undef) | .cell x t => do loadVar t (← asAddr (a.tmps.getD x undef)) : Sem Value)) = resM a.tmps := by
        funext r
        cases r <;> rfl
      rw [← this]
      rfl
    rw [e]
    simp only [Sem.run_bind, hm, Result.andThen_ok, Sem.run_pure]
  refine ⟨_, hres, ?_⟩
  match l, us, h2 with
  | [], us, h2 =>
    have : us = [] := List.eq_nil_of_length_eq_zero (by simpa using h2.1)
    subst this
    exact .tuple rfl (fun i hi => by simp at hi)
  | [x], us, h2 =>
    obtain ⟨y, rfl⟩ := List.length_eq_one_iff.1 (show us.length = 1 by simpa using h2.1)
    have := h2.2 0 (by simp)
    simpa [tupleOf] using this
  | x :: y :: r, us, h2 =>
    have hne : ¬ us.toArray.size = 1 := by have := h2.1; simp at this ⊢; omega
    rw [dif_neg hne]
    exact .tuple h2.1 h2.2
theorem St.takeMark {r : Nat} {d : Deferred} {ds : List Deferred} (s : St C lam (r :: ms) F b a w cs) (hdf : DfR C F.df ds ms) :
    (Instr.takeDeferred r).run P w = .ok [] { w with heap := w.heap.setIfInBounds r (.deferred none) } ∧
    St C lam ms F b { a with defers := ds } { w with heap := w.heap.setIfInBounds r (.deferred none) } cs ∧
    Ext C F.hp (Own lam (r :: ms)) w C F.hp (Own lam ms) { w with heap := w.heap.setIfInBounds r (.deferred none) } := by
  have hm := s.mark r (by simp)
  have hown : Own lam (r :: ms) r := .inr (by simp)
  have hsub : ∀ β, Own lam ms β → Own lam (r :: ms) β := fun β h => h.imp id (List.mem_cons_of_mem _)
  have hne : ∀ β, β ≠ r → (w.heap.setIfInBounds r (.deferred none))[β]? = w.heap[β]? := fun β h => heap_set_other h
  have hnd := List.nodup_cons.1 s.nodup
  refine ⟨?_, ?_, ?_⟩
  · simp only [Instr.takeDeferred, Sem.run_bind, run_getObj hm (fun _ _ _ h => by cases h), Result.andThen_ok, run_setObj hm (fun _ _ _ h => by cases h), Sem.run_pure]
  · refine { wr := ⟨fun x v h => ?_, fun id blk h => ?_, s.wr.inj, s.wr.apart, s.wr.fresh, s.wr.base.on (fun _ _ e => e) (fun x v e => hne _ (s.osig r x v hown e))⟩, env := s.env, box := fun t β ht => ?_, inj := s.inj, mark := fun m hm' => ?_, nodup := hnd.2, live := fun β ho => s.live β (hsub β ho),
             osig := fun β x v ho => s.osig β x v (hsub β ho), df := hdf, up := s.up, fn := s.fn, rnd := s.rnd }
    · have := s.wr.sig x v h
      have hx := s.osig r x v hown h
      unfold World.cell? at this ⊢
      rw [hne _ hx]
      exact this
    · obtain ⟨L, k1, k2⟩ := s.wr.blk id blk h
      exact ⟨L, k1, k2.same (.refl C) (hne _ fun e => s.live r hown ⟨id, blk, L, h, k1, e⟩)⟩
    · obtain ⟨g, cells, c, k1, k2, k3, k4⟩ := s.box t β ht
      refine ⟨g, cells, c, k1, k2.same (hne _ fun e => ?_), k3, k4⟩
      obtain ⟨T, lo, hi, k5, _⟩ := k2
      rw [e, hm] at k5
      cases k5
    · exact (hne m fun e => hnd.1 (e ▸ hm')).trans (s.mark m (List.mem_cons_of_mem _ hm'))
  · exact { le := .refl C, os := rfl, tape := rfl, output := rfl, size := by simp, same := fun β _ _ ho => hne β fun e => ho (e ▸ hown), live := fun β _ l => .inl l, own := fun β _ o => .inr (hsub β o),
            sig := fun _ _ _ h => .inl h, next := Nat.le_refl _ }
theorem unwind_marks : ∀ (ds : List Deferred) (ms : List Nat) (a : Act) (w : World) (todo : List Item) (M : FrameMode), a.defers = ds → M ≠ .run → F.df = [] → St C lam ms F b a w cs →
    ∃ w', Steps P (lone { b.atR a todo with mode := M } cs w) (lone { b.atR { a with defers := [] } todo with mode := M } cs w') ∧ St C lam [] F b { a with defers := [] } w' cs ∧ Ext C F.hp (Own lam ms) w C F.hp (Own lam []) w' := by
  intro ds
  induction ds with
  | nil =>
    intro ms a w todo M hd hM hF s
    have hdf := s.df
    rw [hF, hd] at hdf
    cases hdf
    obtain ⟨t, d⟩ := a
    simp only at hd
    subst hd
    exact ⟨w, .refl _ _, s, .refl _ _ _ _⟩
  | cons d ds ih =>
    intro ms a w todo M hd hM hF s
    have hdf := s.df
    rw [hF, hd] at hdf
    cases hdf with
    | mark r hr =>
      rename_i ms
      have hr' : DfR C F.df ds ms := by rw [hF]; exact hr
      obtain ⟨h1, h2, h3⟩ := s.takeMark (P := P) (d := { target := .collected r, args := #[] }) hr'
      obtain ⟨w', q1, q2, q3⟩ := ih ms { a with defers := ds } _ todo M rfl hM hF h2
      refine ⟨w', .head (step_collected (fr := { b.atR a todo with mode := M }) (d := { target := .collected r, args := #[] }) hM hd rfl h1) q1, q2, h3.trans q3⟩
def entryFr (f : FuncId) (args : List AV) (h : Heap) (up : Option (AV × Bool)) : Fr := { f, rnd := false, e := entryEnv args 0 .nil, lm := .nil, hp := h, df := [], up }
def entryB (f : FuncId) (kind : CallKind) : Frame := { (default : Frame) with fn := f, kind := kind, roundOf := none }
def entryA (fn : Func) (vs : Array Value) : Act := { tmps := vs ++ Array.replicate (fn.ntmps - vs.size) undef, defers := [] }
theorem entryEnv_get : ∀ (args : List AV) (i : Nat) (e : Mp AV) (t : Nat), (entryEnv args i e).get t = if i ≤ t ∧ t < i + args.length then args[t - i]? else e.get t := by
  intro args
  induction args with
  | nil => intro i e t; simp [entryEnv]; omega
  | cons v r ih =>
    intro i e t
    simp only [entryEnv, ih, Mp.get_set, List.length_cons]
    by_cases h1 : t = i
    · subst h1
      rw [if_neg (by omega), if_pos rfl, if_pos (by omega)]
      simp
    · by_cases h2 : i + 1 ≤ t ∧ t < i + 1 + r.length
      · rw [if_pos h2, if_pos (by omega), show t - i = t - (i + 1) + 1 from by omega]
        simp
      · rw [if_neg h2, if_neg (fun e => h1 e.symm), if_neg (by omega)]
theorem St.entry {h : Heap} (r : WR C h w) {args : List AV} {vs : Array Value} (hv : VRs C args vs) {fn : Func} {f : FuncId} {kind : CallKind} {up : Option (AV × Bool)} (hup : UpR C kind up cs) :
    St C (fun _ => none) [] (entryFr f args h up) (entryB f kind) (entryA fn vs) w cs where
  wr := r
  env t := by
    show SR C _ _ (Fr.tmp _ t) _
    unfold Fr.tmp
    simp only [entryFr, entryEnv_get, Mp.get_nil, Nat.zero_add, Nat.zero_le, true_and, Nat.sub_zero]
    have hsz : vs.size = args.length := hv.1
    by_cases ht : t < args.length
    · rw [if_pos ht]
      have hlt : t < vs.size := Nat.lt_of_lt_of_eq ht hsz.symm
      have hv' := hv.2 t ht
      have e1 : args[t]? = some args[t] := by simp [ht]
      have e2 : args.getD t .junk = args[t] := by simp [List.getD, ht]
      have e3 : (entryA fn vs).tmps.getD t undef = vs.getD t undef := by
        simp [entryA, Array.getD_eq_getD_getElem?, Array.getElem?_append, hlt]
      rw [e1, e3]
      rw [e2] at hv'
      exact SR.of hv'
    · rw [if_neg ht]
      have e3 : (entryA fn vs).tmps.getD t undef = undef := by
        simp only [entryA, Array.getD_eq_getD_getElem?, Array.getElem?_append]
        rw [if_neg (fun e => ht (Nat.lt_of_lt_of_eq e hsz))]
        cases h : (Array.replicate (fn.ntmps - vs.size) undef)[t - vs.size]? with
        | none => rfl
        | some u =>
          rw [Array.getElem?_replicate] at h
          split at h
          · cases h; rfl
          · cases h
      rw [e3]
      exact SR.of (VRundef C)
  box s β h := by cases h
  inj s s' β h := by cases h
  mark r h := by simp at h
  nodup := by simp
  live β o := (own_none β o).elim
  osig β x v o := (own_none β o).elim
  df := .nil
  up := hup
  fn := rfl
  rnd := rfl
theorem bodyV_ok {X : Ctx} {ev : Code → Fr → Out} (hev : CodeOK X.P ev) {h : Heap} (r : WR C h w) {args : List AV} {vs : Array Value} (hv : VRs C args vs) {f : FuncId} {kind : CallKind} {up : Option (AV × Bool)} (hup : UpR C kind up cs)
    (hne : bodyV X ev f args h up ≠ .fail) : ∃ fn, X.P.funcs[f]? = some fn ∧ fn.body.isSome = true ∧
      Outs X.P (lone (Frame.enter X.P f vs kind) cs w) C (fun _ => none) [] (entryFr f args h up) (entryB f kind) (entryA fn vs) w cs [] (bodyV X ev f args h up) := by
  cases hf : X.P.funcs[f]? with
  | none => exact absurd (by unfold bodyV; rw [hf]) hne
  | some fn =>
    cases hb : fn.body with
    | none => exact absurd (by unfold bodyV; rw [hf]; simp only [hb]) hne
    | some c =>
      by_cases hok : fn.ntmps < args.length ∨ codeOk fn.ntmps c = false
      · exact absurd (by unfold bodyV; rw [hf]; simp only [hb]; rw [if_pos hok]) hne
      · have hbv : bodyV X ev f args h up = ev c (entryFr f args h up) := by
          unfold bodyV; rw [hf]; simp only [hb]; rw [if_neg hok]; rfl
        have hc : codeOk fn.ntmps c = true := by
          cases h : codeOk fn.ntmps c with
          | true => rfl
          | false => exact absurd (.inr h) hok
        have hn : args.length ≤ fn.ntmps := by
          rcases Nat.lt_or_ge fn.ntmps args.length with h | h
          · exact absurd (.inl h) hok
          · exact h
        have hsz : vs.size = args.length := hv.1
        have hsize : (entryA fn vs).tmps.size = fn.ntmps := by simp [entryA]; omega
        have he : Frame.enter X.P f vs kind = (entryB f kind).atR (entryA fn vs) [.code c] := by
          simp [Frame.enter, Frame.atR, hf, hb, entryB, entryA]
        refine ⟨fn, rfl, by rw [hb]; rfl, ?_⟩
        rw [he, hbv]
        exact hev c (entryFr f args h up) C (fun _ => none) [] (entryB f kind) (entryA fn vs) w cs [] (St.entry r hv hup) (by rw [hsize]; exact hc)
theorem body_end {m : Machine} {o : Out} {F1 : Fr} (hb : b.roundOf = none) (ho : o = .norm F1 ∨ o = .ret F1) (h : Outs P m C lam ms F b a w cs [] o) :
    ∃ C' lam' ms' a' cs' w' todo, Steps P m (lone { b.atR a' todo with mode := .returning } cs' w') ∧ Fin C lam ms F b a w cs F1 C' lam' ms' a' cs' w' := by
  rcases ho with rfl | rfl
  · obtain ⟨C', lam', ms', a', cs', w', h1, h2⟩ := h
    exact ⟨C', lam', ms', a', cs', w', _, h1.trans (.one (stepR_end hb)), h2⟩
  · obtain ⟨C', lam', ms', a', cs', w', k1, h1, h2⟩ := h
    exact ⟨C', lam', ms', a', cs', w', _, h1.trans (.one (stepR_ret hb)), h2⟩
def ModeR (C : Cfg) (st : Option AV) (M : FrameMode) : Prop :=
  match st with
  | none => M = .returning
  | some v => ∃ u, M = Pan u ∧ VR C v u
theorem ModeR.mono {C D : Cfg} (hle : C.le D) {st : Option AV} {M : FrameMode} (h : ModeR C st M) : ModeR D st M := by
  cases st with
  | none => exact h
  | some v => obtain ⟨u, h1, h2⟩ := h; exact ⟨u, h1, h2.mono hle⟩
theorem ModeR.run {st : Option AV} {M : FrameMode} (h : ModeR C st M) : M ≠ .run := by
  cases st with
  | none => intro e; rw [show M = .returning from h] at e; cases e
  | some v => obtain ⟨u, h1, _⟩ := h; rw [h1]; intro e; cases e
end
end Go.AM
set_option linter.unusedSimpArgs false
set_option linter.unusedVariables false
set_option linter.unusedSectionVars false
namespace Go.AM
open Go
variable [Keep]
section
variable {P : Program} {w w' : World} {C : Cfg} {lam : Nat → Option Nat} {ms : List Nat} {F : Fr} {b : Frame} {a : Act} {cs : List Frame} {k : List Item}
theorem dbodyV_ok {X : Ctx} {ev : Code → Fr → Out} (hev : CodeOK X.P ev) {h : Heap} (r : WR C h w) {args : List AV} {vs : Array Value} (hv : VRs C args vs) {f : FuncId} {kind : CallKind} {up : Option (AV × Bool)} (hup : UpR C kind up cs)
    (hne : dbodyV X ev f args h up ≠ .fail) : ∃ fn, X.P.funcs[f]? = some fn ∧ fn.body.isSome = true ∧ fn.results = #[] ∧
      Outs X.P (lone (Frame.enter X.P f vs kind) cs w) C (fun _ => none) [] (entryFr f args h up) (entryB f kind) (entryA fn vs) w cs [] (dbodyV X ev f args h up) := by
  cases hf : X.P.funcs[f]? with
  | none => exact absurd (by unfold dbodyV; rw [hf]) hne
  | some fn =>
    by_cases he : fn.results.isEmpty = true
    · have e : dbodyV X ev f args h up = bodyV X ev f args h up := by unfold dbodyV; rw [hf]; simp only [he, if_true]
      rw [e] at hne ⊢
      obtain ⟨fn', h1, h2, h3⟩ := bodyV_ok (cs := cs) hev r hv hup hne
      rw [hf] at h1
      cases h1
      exact ⟨fn, rfl, h2, by simpa using he, h3⟩
    · exact absurd (by unfold dbodyV; rw [hf]; simp only [he]; rfl) hne
theorem deferred_ok {X : Ctx} {ev : Code → Fr → Out} (hev : CodeOK X.P ev) (hP : NoNum X.P) {h : Heap} (r : WR C h w) {args : List AV} {vs : Array Value} (hv : VRs C args vs) {g : FuncId} {st : Option AV} {c : Frame} (hM : ModeR C st c.mode) {F1 : Fr}
    (ho : dbodyV X ev g args h (st.map fun v => (v, false)) = .norm F1 ∨ dbodyV X ev g args h (st.map fun v => (v, false)) = .ret F1) (hdf : F1.df = []) :
    (∃ fn, X.P.funcs[g]? = some fn ∧ fn.body.isSome = true) ∧ ∃ C' w' M', Steps X.P (lone (Frame.enter X.P g vs .deferred) (c :: cs) w) (lone { c with mode := M' } cs w') ∧ ModeR C' (stillUp F1.up) M' ∧ WR C' F1.hp w' ∧ Ext C h (fun _ => False) w C' F1.hp (fun _ => False) w' := by
  have hup : UpR C .deferred (st.map fun v => (v, false)) (c :: cs) := by
    cases st with
    | none => exact .inr ⟨rfl, c, cs, rfl, hM⟩
    | some v =>
      obtain ⟨u, h1, h2⟩ := hM
      exact ⟨rfl, c, cs, u, rfl, h1, h2⟩
  have hne : dbodyV X ev g args h (st.map fun v => (v, false)) ≠ .fail := by rcases ho with ho | ho <;> rw [ho] <;> intro e <;> cases e
  obtain ⟨fn, hf, hb, hres, houts⟩ := dbodyV_ok (cs := c :: cs) hev r hv hup hne
  refine ⟨⟨fn, hf, hb⟩, ?_⟩
  obtain ⟨C', lam', ms', a', cs', w', todo, h1, h2, h3, h4, h5⟩ := body_end rfl ho houts
  obtain ⟨w2, q1, q2, q3⟩ := unwind_marks (P := X.P) a'.defers ms' a' w' todo .returning rfl (by intro e; cases e) hdf h3
  have hcs : ∃ m, cs' = { c with mode := m } :: cs := by
    rcases h5 with rfl | ⟨_, c', rest, m, e, rfl⟩
    · exact ⟨c.mode, rfl⟩
    · cases e; exact ⟨m, rfl⟩
  obtain ⟨m, rfl⟩ := hcs
  have hgo : Frame.going X.P { (entryB g .deferred).atR { a' with defers := [] } todo with mode := .returning } w2 (.returned (.tuple #[])) := by
    refine ⟨rfl, rfl, fn, hf, ?_⟩
    simp [results, hres, Frame.atR]
  have hst := step_going_returned (P := X.P) (c := { c with mode := m }) (cs := cs) (w := w2) (fr := { (entryB g .deferred).atR { a' with defers := [] } todo with mode := .returning }) rfl hgo
  have hup' := q2.up
  have hset : ModeR C' (stillUp F1.up) (settle m) := by
    cases hF : F1.up with
    | none =>
      rw [hF] at hup'
      rcases hup' with h | ⟨_, c', rest, e, h⟩
      · cases h
      · cases e
        show settle m = .returning
        rw [show m = .returning from h]
        rfl
    | some p =>
      obtain ⟨v, rec⟩ := p
      rw [hF] at hup'
      obtain ⟨_, c', rest, u, e, h, hr⟩ := hup'
      cases e
      have h : m = .panicking [{ v := u, recovered := rec, goexit := false }] := h
      rw [h]
      cases rec with
      | true => rfl
      | false => exact ⟨u, rfl, hr⟩
  refine ⟨C', w2, settle m, h1.trans (q1.trans (.one hst)), hset, q2.wr, ?_⟩
  exact (h4.trans q3).close own_none
def Unw (P : Program) (lam : Nat → Option Nat) (ms : List Nat) (b : Frame) (a : Act) (todo : List Item) (M : FrameMode) (cs : List Frame) (C : Cfg) (F : Fr) (w : World) (h' : Heap) (st' : Option AV) : Prop :=
  ∃ C' w' M', Steps P (lone { b.atR a todo with mode := M } cs w) (lone { b.atR { a with defers := [] } todo with mode := M' } cs w') ∧ St C' lam [] { F with hp := h', df := [] } b { a with defers := [] } w' cs ∧
    Ext C F.hp (Own lam ms) w C' h' (Own lam []) w' ∧ ModeR C' st' M'
theorem unwind_ok {X : Ctx} {ev : Code → Fr → Out} (hev : CodeOK X.P ev) (hP : NoNum X.P) : ∀ (ds : List Deferred) (C : Cfg) (ms : List Nat) (F : Fr) (a : Act) (w : World) (todo : List Item) (M : FrameMode) (st st' : Option AV) (h' : Heap), a.defers = ds → St C lam ms F b a w cs → ModeR C st M →
    deferV X ev F.df F.hp st = some (h', st') →
    Unw X.P lam ms b a todo M cs C F w h' st' := by
  intro ds
  induction ds with
  | nil =>
    intro C ms F a w todo M st st' h' hd s hM hdv
    have hdf := s.df
    rw [hd] at hdf
    generalize hF : F.df = df at hdf hdv
    cases hdf
    simp only [deferV, Option.some.injEq, Prod.mk.injEq] at hdv
    obtain ⟨rfl, rfl⟩ := hdv
    obtain ⟨t, d⟩ := a
    simp only at hd
    subst hd
    obtain ⟨f, rnd, e, lm, hp, df, up⟩ := F
    simp only at hF
    subst hF
    exact ⟨C, w, M, .refl _ _, s, .refl _ _ _ _, hM⟩
  | cons d ds ih =>
    intro C ms F a w todo M st st' h' hd s hM hdv
    have hdf := s.df
    rw [hd] at hdf
    generalize hF : F.df = df at hdf hdv
    cases hdf with
    | mark r hr =>
      rename_i ms
      have hr' : DfR C F.df ds ms := by rw [hF]; exact hr
      obtain ⟨h1, h2, h3⟩ := s.takeMark (P := X.P) (d := { target := .collected r, args := #[] }) hr'
      obtain ⟨C', w', M', q1, q2, q3, q4⟩ := ih C ms F { a with defers := ds } _ todo M st st' h' rfl h2 hM (by rw [hF]; exact hdv)
      exact ⟨C', w', M', .head (step_collected (fr := { b.atR a todo with mode := M }) (d := { target := .collected r, args := #[] }) hM.run hd rfl h1) q1, q2, h3.trans q3, q4⟩
    | fn hr hv1 hv2 =>
      rename_i df0 g first capt args vs ws
      have hvs := hv1.append hv2
      have main : ∀ F1, (dbodyV X ev g ((first ++ args) ++ capt) F.hp (st.map fun v => (v, false)) = .norm F1 ∨ dbodyV X ev g ((first ++ args) ++ capt) F.hp (st.map fun v => (v, false)) = .ret F1) → F1.df.isEmpty = true →
          deferV X ev df0 F1.hp (stillUp F1.up) = some (h', st') → Unw X.P lam ms b a todo M cs C F w h' st' := fun F1 ho he hrest => by
        have hdf0 : F1.df = [] := by simpa using he
        obtain ⟨⟨fn, hfn, hb⟩, C1, w1, M1, p1, p2, p3, p4⟩ := deferred_ok (cs := cs) (c := { b.atR { a with defers := ds } todo with mode := M }) hev hP s.wr hvs hM ho hdf0
        have s1 : St C lam ms { F with df := df0 } b { a with defers := ds } w cs := { s with df := hr }
        have s2 := s1.later p3 p4
        obtain ⟨C', w', M', q1, q2, q3, q4⟩ := ih C1 ms { F with df := df0, hp := F1.hp } { a with defers := ds } w1 todo M1 (stillUp F1.up) st' h' rfl s2 p2 hrest
        have hstep := step_defer (P := X.P) (fr := { b.atR a todo with mode := M }) (cs := cs) (w := w) (d := { target := .fn (.func g) ws, args := vs }) (ds := ds) (fv := .func g) (cap := ws) (f := g) (args := vs ++ ws) hM.run hd rfl
          (by simp only [invoke, run_callFunc hP hfn hb])
        exact ⟨C', w', M', .head hstep (p1.trans q1), q2, (p4.wide _).trans q3, q4⟩
      simp only [deferV] at hdv
      split at hdv
      · rename_i F1 e
        split at hdv
        · rename_i he; exact main F1 (.inl e) he hdv
        · cases hdv
      · rename_i F1 e
        split at hdv
        · rename_i he; exact main F1 (.inr e) he hdv
        · cases hdv
      · cases hdv
def Left (P : Program) (f : FuncId) (C : Cfg) (h : Heap) (w : World) (m : Machine) (cs : List Frame) : COut → Prop
  | .ret v h' _ => ∃ C' w' fr u, Steps P m (lone fr cs w') ∧ fr.leaving P w' (.returned u) ∧ fr.fn = f ∧ VR C' v u ∧ WR C' h' w' ∧ Ext C h (fun _ => False) w C' h' (fun _ => False) w'
  | .pan v h' _ => ∃ C' w' fr u, Steps P m (lone fr cs w') ∧ fr.leaving P w' (.panicked [{ v := u, recovered := false }]) ∧ fr.fn = f ∧ VR C' v u ∧ WR C' h' w' ∧ Ext C h (fun _ => False) w C' h' (fun _ => False) w'
  | .fail => True
theorem Left.answered {f : FuncId} {h : Heap} {m : Machine} {c : Frame} {r : COut} (h1 : Left P f C h w m (c :: cs) r) : Answered P C h w m c cs r := by
  cases r with
  | ret v h' up => obtain ⟨C', w', fr, u, q1, q2, _, q3⟩ := h1; exact ⟨C', w', u, q1.trans (.one (step_leave_returned q2)), q3⟩
  | pan v h' up => obtain ⟨C', w', fr, u, q1, q2, _, q3⟩ := h1; exact ⟨C', w', u, q1.trans (.one (step_leave_panicked q2)), q3⟩
  | fail => trivial
def CallOK (P : Program) (cl : FuncId → List AV → Heap → COut) : Prop :=
  ∀ (f : FuncId) (args : List AV) (h : Heap) (C : Cfg) (w : World) (vs : Array Value), WR C h w → VRs C args vs → cl f args h ≠ .fail →
    (∃ fn, P.funcs[f]? = some fn ∧ fn.body.isSome = true) ∧ ∀ cs, Left P f C h w (lone (Frame.enter P f vs .normal) cs w) cs (cl f args h)
theorem CallOK.cl {cl : FuncId → List AV → Heap → COut} (h : CallOK P cl) : ClOK P cl := fun f args hp C w vs r hv hne =>
  ⟨(h f args hp C w vs r hv hne).1, fun c cs => ((h f args hp C w vs r hv hne).2 (c :: cs)).answered⟩
def IntrOK (X : Ctx) : Prop := ∀ (f : FuncId) (g : List AV → Heap → Option (AV × Heap)), X.intr f = some g → ∀ (args : List AV) (h : Heap) (v : AV) (h' : Heap), g args h = some (v, h') →
  ∀ (C : Cfg) (w : World) (vs : Array Value), WR C h w → VRs C args vs → (∃ fn, X.P.funcs[f]? = some fn ∧ fn.body.isSome = true) ∧ ∀ cs, Left X.P f C h w (lone (Frame.enter X.P f vs .normal) cs w) cs (.ret v h' none)
theorem resV_ok {X : Ctx} {f : FuncId} (s : St C lam [] F b a w cs) {todo : List Item} (hk : b.kind = .normal) (hfb : b.fn = f) (hd : a.defers = []) {C0 : Cfg} {h0 : Heap} {w0 : World} {m : Machine}
    (hs : Steps X.P m (lone { b.atR a todo with mode := .returning } cs w)) (hx : Ext C0 h0 (fun _ => False) w0 C F.hp (fun _ => False) w) : Left X.P f C0 h0 w0 m cs (resV X f F) := by
  unfold resV
  split
  · trivial
  · rename_i fn hf
    split
    · trivial
    · rename_i l hl
      obtain ⟨u, h1, h2⟩ := results_ok s hl
      have hlv : Frame.leaving X.P { b.atR a todo with mode := .returning } w (.returned u) := ⟨rfl, hd, hk, fn, by rw [← hfb] at hf; exact hf, h1⟩
      unfold frzRes
      split
      · split
        · rename_i v' h' hfr
          obtain ⟨C', q1, q2, q3⟩ := freeze_ok s.wr h2 hfr
          exact ⟨C', w, _, u, hs, hlv, hfb, q1, q2, hx.trans q3⟩
        · trivial
      · exact ⟨C, w, _, u, hs, hlv, hfb, h2, s.wr, hx⟩
theorem finV_ok {X : Ctx} {ev : Code → Fr → Out} (hev : CodeOK X.P ev) (hP : NoNum X.P) {f : FuncId} (s : St C lam ms F b a w cs) {todo : List Item} {M : FrameMode} {st : Option AV} (hM : ModeR C st M) (hk : b.kind = .normal) (hfb : b.fn = f)
    (hfn : ∃ fn, X.P.funcs[f]? = some fn) {C0 : Cfg} {h0 : Heap} {w0 : World} {m : Machine} (hs : Steps X.P m (lone { b.atR a todo with mode := M } cs w)) (hx : Ext C0 h0 (fun _ => False) w0 C F.hp (Own lam ms) w) :
    Left X.P f C0 h0 w0 m cs (finV X ev f F st) := by
  unfold finV
  split
  · trivial
  · rename_i h' v hd
    obtain ⟨C', w', M', q1, q2, q3, u, rfl, q4⟩ := unwind_ok hev hP a.defers C ms F a w todo M st _ h' rfl s hM hd
    obtain ⟨fn, hfn⟩ := hfn
    exact ⟨C', w', _, u, hs.trans q1, ⟨rfl, rfl, fn, by rw [← hfb] at hfn; exact hfn⟩, hfb, q4, q2.wr, (hx.trans q3).close fun _ o => o⟩
  · rename_i h' hd
    obtain ⟨C', w', M', q1, q2, q3, q4⟩ := unwind_ok hev hP a.defers C ms F a w todo M st _ h' rfl s hM hd
    have q4 : M' = .returning := q4
    subst q4
    exact resV_ok q2 hk hfb rfl (hs.trans q1) ((hx.trans q3).close fun _ o => o)
theorem callF_ok {X : Ctx} {ev : Code → Fr → Out} (hev : CodeOK X.P ev) (hP : NoNum X.P) (hI : IntrOK X) : CallOK X.P (callF X ev) := by
  intro f args h C w vs r hv hne
  unfold callF at hne ⊢
  cases hi : X.intr f with
  | some g =>
    rw [hi] at hne
    simp only at hne ⊢
    cases hg : g args h with
    | none => rw [hg] at hne; exact absurd rfl hne
    | some p =>
      obtain ⟨v, h'⟩ := p
      exact hI f g hi args h v h' hg C w vs r hv
  | none =>
    rw [hi] at hne
    simp only at hne ⊢
    have hb : bodyV X ev f args h none ≠ .fail := fun e => by rw [e] at hne; exact absurd rfl hne
    have hup : ∀ cs, UpR C .normal none cs := fun cs => .inl rfl
    obtain ⟨fn, hf, hbd, _⟩ := bodyV_ok (cs := []) hev r hv (hup []) hb
    refine ⟨⟨fn, hf, hbd⟩, fun cs => ?_⟩
    obtain ⟨fn', hf', _, houts⟩ := bodyV_ok (cs := cs) hev r hv (hup cs) hb
    have hcs : ∀ cs', CsR (entryB f .normal) cs cs' → cs' = cs := fun cs' h => by
      rcases h with h | ⟨h, _⟩
      · exact h
      · cases h
    have close : ∀ {C' : Cfg} {h' : Heap} {O' : Nat → Prop} {w' : World}, Ext C h (Own (fun _ => none) []) w C' h' O' w' → Ext C h (fun _ => False) w C' h' O' w' := fun e =>
      { le := e.le, os := e.os, tape := e.tape, output := e.output, size := e.size, same := fun β hb hl _ => e.same β hb hl (own_none β), live := fun β hb l => (e.live β hb l).imp id fun o => (own_none β o).elim,
        own := fun β hb o => (e.own β hb o).imp id fun o => (own_none β o).elim, sig := fun x v hb s => (e.sig x v hb s).imp id fun s => s.imp id fun o => (own_none _ o).elim, next := e.next }
    have ends : ∀ F1, (bodyV X ev f args h none = .norm F1 ∨ bodyV X ev f args h none = .ret F1) → Left X.P f C h w (lone (Frame.enter X.P f vs .normal) cs w) cs (finV X ev f F1 none) := fun F1 ho => by
      obtain ⟨C', lam', ms', a', cs', w', todo, h1, h2, h3, h4, h5⟩ := body_end rfl ho houts
      obtain rfl := hcs cs' h5
      exact finV_ok (M := .returning) (st := none) hev hP h3 rfl rfl rfl ⟨fn, hf⟩ h1 (close h4)
    split
    · rename_i F1 e; exact ends F1 (.inl e)
    · rename_i F1 e; exact ends F1 (.inr e)
    · rename_i v F1 e
      rw [e] at houts
      obtain ⟨C', lam', ms', a', cs', w', todo, u, h1, hr, h2, h3, h4, h5⟩ := houts
      obtain rfl := hcs cs' h5
      exact finV_ok (M := Pan u) (st := some v) hev hP h3 ⟨u, rfl, hr⟩ rfl rfl ⟨fn, hf⟩ h1 (close h4)
    · trivial
end
end Go.AM
set_option linter.unusedSimpArgs false
set_option linter.unusedVariables false
set_option linter.unusedSectionVars false
namespace Go.AM
open Go
variable [Keep]
theorem stepR_scope {P : Program} {b : Frame} {a : Act} {k : List Item} {cs : List Frame} {w : World} {c : Code} :
    step P (lone (b.atR a (.code (.scope c) :: k)) cs w) = .next (lone (b.atR a (.code c :: .inScope c :: k)) cs w) :=
  step_lone_go (by simp [stepG, stepG.exec, Frame.atR])
theorem stepR_inScope {P : Program} {b : Frame} {a : Act} {k : List Item} {cs : List Frame} {w : World} {c : Code} :
    step P (lone (b.atR a (.inScope c :: k)) cs w) = .next (lone (b.atR a k) cs w) :=
  step_lone_go (by simp [stepG, stepG.exec, Frame.atR])
section
variable {P : Program} {w w' : World} {C : Cfg} {lam : Nat → Option Nat} {ms : List Nat} {F : Fr} {b : Frame} {a : Act} {cs : List Frame} {k : List Item}
theorem Ext.ahead {C C' : Cfg} {h h' : Heap} {w w' : World} {O O' : Nat → Prop} (e : Ext C h O w C' h' O' w') (hO : ∀ β, ¬ O β) : Ext C h (fun _ => False) w C' h' O' w' where
  le := e.le
  os := e.os
  tape := e.tape
  output := e.output
  size := e.size
  same β hb hl _ := e.same β hb hl (hO β)
  live β hb l := (e.live β hb l).imp id fun o => (hO β o).elim
  own β hb o := (e.own β hb o).imp id fun o => (hO β o).elim
  sig x v hb s := (e.sig x v hb s).imp id fun s => s.imp id fun o => (hO _ o).elim
  next := e.next
theorem St.putHp (s : St C lam ms F b a w cs) {id : Nat} {blk blk' : Blk} {L : Loc} (hg : F.hp.get id = some blk) (hm : C.mu id = some L) (hs : w'.heap.size = w.heap.size) (hsame : ∀ β, β ≠ L.b → w'.heap[β]? = w.heap[β]?)
    (hbr : BR C w' L blk') (hos : w'.os = w.os) (htp : w'.tape = w.tape) (hout : w'.output = w.output) :
    St C lam ms { F with hp := F.hp.put id blk' } b a w' cs ∧ Ext C F.hp (Own lam ms) w C (F.hp.put id blk') (Own lam ms) w' := s.turn (WR.put s.wr hg hm hs hsame hbr hos htp hout)
theorem run_getLoop {l : Nat} {r : Loop} (h : w.heap[l]? = some (.loop r)) : (Instr.getLoop l).run P w = .ok r w := by
  simp only [Instr.getLoop, Sem.run_bind, run_getObj h (fun _ _ _ h => by cases h), Result.andThen_ok, Sem.run_pure]
def putMany (l : List (Tmp × Value)) (tmps : Array Value) : Array Value := l.foldl (fun tmps p => tmps.setIfInBounds p.1 p.2) tmps
theorem setParams_ok : ∀ (ps : List Tmp) (args : List AV) (vs : List Value) (e e' : Mp AV) (tmps : Array Value), setParams ps args e = some e' → VRs C args vs.toArray → (∀ p ∈ ps, p < tmps.size) →
    (∀ t, SR C (fun _ => none) .nil (tmpV e t) (tmps.getD t undef)) → ps.length = args.length ∧ (putMany (ps.zip vs) tmps).size = tmps.size ∧ ∀ t, SR C (fun _ => none) .nil (tmpV e' t) ((putMany (ps.zip vs) tmps).getD t undef) := by
  intro ps
  induction ps with
  | nil =>
    intro args vs e e' tmps h hv hp he
    cases args with
    | nil => simp [setParams] at h; subst h; exact ⟨rfl, rfl, he⟩
    | cons x r => simp [setParams] at h
  | cons p ps ih =>
    intro args vs e e' tmps h hv hp he
    cases args with
    | nil => simp [setParams] at h
    | cons x r =>
      simp only [setParams] at h
      cases vs with
      | nil => have := hv.1; simp at this
      | cons v vs =>
        have hx : VR C x v := by have := hv.2 0 (by simp); simpa using this
        have hr : VRs C r vs.toArray := by
          refine ⟨by have := hv.1; simp at this ⊢; omega, fun i hi => ?_⟩
          have := hv.2 (i + 1) (by simp; omega)
          simpa using this
        have hpt : p < tmps.size := hp p (by simp)
        obtain ⟨h1, h2, h3⟩ := ih r vs (e.set p x) e' (tmps.setIfInBounds p v) h hr (fun q hq => by simpa using hp q (by simp [hq])) (fun t => by
          rw [getD_set _ _ _ _ hpt]
          unfold tmpV
          rw [Mp.get_set]
          by_cases ht : p = t
          · rw [if_pos ht, if_pos ht]; exact SR.of hx
          · rw [if_neg ht, if_neg ht]; exact he t)
        exact ⟨by simp [h1], by rw [show putMany ((p :: ps).zip (v :: vs)) tmps = putMany (ps.zip vs) (tmps.setIfInBounds p v) from rfl, h2]; simp, h3⟩
theorem foldl_zip (ps : Array Tmp) (vs : Array Value) (tmps : Array Value) : (ps.zip vs).foldl (fun tmps (t, a) => tmps.setIfInBounds t a) tmps = putMany (ps.toList.zip vs.toList) tmps := by
  rw [← Array.foldl_toList, Array.toList_zip]
  rfl
theorem endV_ok (s : St C lam ms F b a w cs) {id : Nat} {L : Loc} {st : LoopState} {pend : Option Code} {c : Frame} {cs1 : List Frame} (hm : C.mu id = some L) (hst : st = (if pend.isNone then .ready else .done)) {C0 : Cfg} {h0 : Heap} {w0 : World} {m : Machine}
    (hs : ∀ w', (Instr.endRound L.b pend).run P w = .ok (.bool pend.isNone) w' → Steps P m (lone (c.finish (.bool pend.isNone)) cs1 w')) (hx : Ext C0 h0 (fun _ => False) w0 C F.hp (Own lam ms) w) :
    Answered P C0 h0 w0 m c cs1 (endV id F st pend pend.isNone) := by
  unfold endV
  split
  · rename_i f e ps assign body st0 pend0 hg
    obtain ⟨L', e1, l, h1, h2, h3, h4, h5, h6, h7, h8⟩ := s.wr.blk id _ hg
    rw [hm] at e1
    cases e1
    have hrun : (Instr.endRound L.b pend).run P w = .ok (.bool pend.isNone) { w with heap := w.heap.setIfInBounds L.b (.loop { l with state := st, pending := pend }) } := by
      simp only [Instr.endRound, Sem.run_bind, run_getLoop h1, Result.andThen_ok, run_setObj h1 (fun _ _ _ h => by cases h), Sem.run_pure, hst]
    obtain ⟨s', e'⟩ := s.putHp (w' := { w with heap := w.heap.setIfInBounds L.b (.loop { l with state := st, pending := pend }) }) (blk' := .loop f e ps assign body st pend) hg hm (by simp) (fun β hb => heap_set_other hb)
      ⟨_, heap_set_same h1, h2, h3, h4, h5, rfl, rfl, h8⟩ rfl rfl rfl
    exact ⟨C, _, .bool pend.isNone, hs _ hrun, .bool _, s'.wr, (hx.trans e').close fun _ o => o⟩
  · trivial
theorem roundV_ok {X : Ctx} {ev : Code → Fr → Out} (hev : CodeOK X.P ev) : RdOK X.P (roundV X ev) := by
  intro id args h C w vs L r hv hmu hne
  unfold roundV at hne ⊢
  split at hne
  · rename_i f e ps assign body pend hg
    split at hne
    · exact absurd rfl hne
    · rename_i e' hset
      obtain ⟨L', e1, l, h1, h2, h3, h4, h5, h6, h7, h8, h9, h10, h11⟩ := r.blk id _ hg
      rw [hmu] at e1
      cases e1
      obtain ⟨k1, k2, k3⟩ := setParams_ok ps args vs.toList e e' l.tmps hset (by simpa using hv) h10 h11
      have hsz : vs.size = l.params.size := by rw [hv.1, ← k1, ← h3]; simp
      have hy : (Instr.yield L.b vs).run X.P w = .ok (.round L.b f (putMany (ps.zip vs.toList) l.tmps) assign body) w := by
        simp only [Instr.yield, Sem.run_bind, run_getLoop h1, Result.andThen_ok, ne_eq, hsz, not_true_eq_false, if_false, Sem.run_pure, foldl_zip, h2, h3, h4, h5]
      refine ⟨f, _, assign, body, hy, fun c cs => ?_⟩
      let F0 : Fr := { f, rnd := true, e := e', lm := .nil, hp := h, df := [], up := none }
      let b : Frame := { (default : Frame) with fn := f, kind := .normal, roundOf := some L.b }
      let a : Act := { tmps := putMany (ps.zip vs.toList) l.tmps, defers := [] }
      have hb0 : Frame.round L.b f (putMany (ps.zip vs.toList) l.tmps) assign body .normal = b.atR a [.code assign, .beginRound, .code body] := by
        simp [Frame.round, Frame.atR, b, a]
      have s0 : St C (fun _ => none) [] F0 b a w (c :: cs) :=
        { wr := r, env := k3, box := fun s β h => (by cases h), inj := fun s s' β h => (by cases h), mark := fun r h => (by simp at h), nodup := (by simp), live := fun β o => (own_none β o).elim, osig := fun β x v o => (own_none β o).elim,
          df := .nil, up := .inl rfl, fn := rfl, rnd := rfl }
      have hcs : ∀ cs', CsR b (c :: cs) cs' → cs' = c :: cs := fun cs' h => by
        rcases h with h | ⟨h, _⟩
        · exact h
        · cases h
      have close : ∀ {C' : Cfg} {h' : Heap} {O' : Nat → Prop} {w' : World}, Ext C h (Own (fun _ => none) []) w C' h' O' w' → Ext C h (fun _ => False) w C' h' O' w' := fun e => e.ahead own_none
      have o1 := hev assign F0 C (fun _ => none) [] b a w (c :: cs) [.beginRound, .code body] s0 (by rw [show a.tmps.size = l.tmps.size from k2]; exact h8)
      rw [hb0]
      show Answered _ _ _ _ _ _ _ (match ev assign F0 with
        | .norm F1 => (match F1.hp.get id with
          | some (.loop f1 e1 params1 assign1 body1 .ready p) => roundEnd X.P id (ev body { F1 with hp := F1.hp.put id (.loop f1 e1 params1 assign1 body1 .busy p) })
          | _ => .fail)
        | _ => .fail)
      split
      · rename_i F1 e1
        rw [e1] at o1
        obtain ⟨C1, lam1, ms1, a1, cs1, w1, q1, q2, q3, q4, q5⟩ := o1
        obtain rfl := hcs cs1 q5
        split
        · rename_i f1 e1 ps1 as1 bo1 p1 hg1
          have hmu1 := q4.le.mu _ _ hmu
          obtain ⟨L', e1', l1, g1, g2, g3, g4, g5, g6, g7, g8⟩ := q3.wr.blk id _ hg1
          rw [hmu1] at e1'
          cases e1'
          have hbegin : (Instr.beginRound L.b).run X.P w1 = .ok () { w1 with heap := w1.heap.setIfInBounds L.b (.loop { l1 with state := .busy }) } := by
            simp only [Instr.beginRound, Sem.run_bind, run_getLoop g1, Result.andThen_ok, run_setObj g1 (fun _ _ _ h => by cases h), Sem.run_pure, g6]
          obtain ⟨s1, x1⟩ := q3.putHp (w' := { w1 with heap := w1.heap.setIfInBounds L.b (.loop { l1 with state := .busy }) }) (blk' := .loop f1 e1 ps1 as1 bo1 .busy p1) hg1 hmu1 (by simp) (fun β hb => heap_set_other hb)
            ⟨_, heap_set_same g1, g2, g3, g4, g5, rfl, g7, g8⟩ rfl rfl rfl
          have hsteps : Steps X.P (lone (b.atR a [.code assign, .beginRound, .code body]) (c :: cs) w) (lone (b.atR a1 [.code body]) (c :: cs) _) := q1.trans (.one (stepR_beginRound rfl hbegin))
          have o2 := hev body _ C1 lam1 ms1 b a1 _ (c :: cs) [] s1 (by rw [q2, show a.tmps.size = l.tmps.size from k2]; exact h9)
          have x2 := close (q4.trans x1)
          generalize ev body _ = o at o2
          cases o with
          | norm F2 =>
            obtain ⟨C2, lam2, ms2, a2, cs2, w2, p1, p2, p3, p4, p5⟩ := o2
            obtain rfl := hcs cs2 p5
            have hmu2 := p4.le.mu _ _ hmu1
            exact endV_ok (pend := none) (st := .ready) p3 hmu2 rfl (fun w' hw' => hsteps.trans (p1.trans (.one (stepR_round_end rfl rfl hw')))) (x2.trans p4)
          | exit i F2 =>
            obtain ⟨C2, lam2, ms2, a2, cs2, w2, k1', p1, hk, p2, p3, p4, p5⟩ := o2
            obtain rfl := hcs cs2 p5
            have hmu2 := p4.le.mu _ _ hmu1
            exact endV_ok (pend := some (.exit i)) (st := .done) p3 hmu2 rfl (fun w' hw' => hsteps.trans (p1.trans (.one (stepR_round_exit rfl rfl hk hw')))) (x2.trans p4)
          | ret F2 =>
            obtain ⟨C2, lam2, ms2, a2, cs2, w2, k1', p1, p2, p3, p4, p5⟩ := o2
            obtain rfl := hcs cs2 p5
            have hmu2 := p4.le.mu _ _ hmu1
            exact endV_ok (pend := some .ret) (st := .done) p3 hmu2 rfl (fun w' hw' => hsteps.trans (p1.trans (.one (stepR_round_ret rfl rfl hw')))) (x2.trans p4)
          | pan v F2 =>
            obtain ⟨C2, lam2, ms2, a2, cs2, w2, todo, u, p1, hr, p2, p3, p4, p5⟩ := o2
            obtain rfl := hcs cs2 p5
            show Answered _ _ _ _ _ _ _ (if F2.df.isEmpty && (X.P.funcs[F2.f]?).isSome then .pan v F2.hp none else .fail)
            split
            · rename_i hdf
              simp only [Bool.and_eq_true] at hdf
              obtain ⟨w3, t1, t2, t3⟩ := unwind_marks (P := X.P) a2.defers ms2 a2 w2 todo (Pan u) rfl (by intro e; cases e) (by simpa using hdf.1) p3
              obtain ⟨fn, hfn⟩ := Option.isSome_iff_exists.1 hdf.2
              have hlv : Frame.leaving X.P { b.atR { a2 with defers := [] } todo with mode := Pan u } w3 (.panicked [{ v := u, recovered := false }]) := ⟨rfl, rfl, fn, by rw [← p3.fn] at hfn; exact hfn⟩
              exact ⟨C2, w3, u, hsteps.trans (p1.trans (t1.trans (.one (step_leave_panicked hlv)))), hr, t2.wr, (x2.trans (p4.trans t3)).close fun _ o => o⟩
            · trivial
          | fail => trivial
        · trivial
      · trivial
  · exact absurd rfl hne
end
end Go.AM
set_option linter.unusedSimpArgs false
set_option linter.unusedVariables false
set_option linter.unusedSectionVars false
namespace Go.AM
open Go
variable [Keep]
section
variable {P : Program} {w w' : World} {C : Cfg} {lam : Nat → Option Nat} {ms : List Nat} {F : Fr} {b : Frame} {a : Act} {cs : List Frame} {k : List Item}
theorem St.pushMark (s : St C lam ms F b a w cs) :
    St C lam (w.heap.size :: ms) F b { a with defers := { target := .collected w.heap.size, args := #[] } :: a.defers } { w with heap := w.heap.push (.deferred (some [])) } cs ∧
    Ext C F.hp (Own lam ms) w C F.hp (Own lam (w.heap.size :: ms)) { w with heap := w.heap.push (.deferred (some [])) } := by
  obtain ⟨s', e'⟩ := s.push (w' := { w with heap := w.heap.push (.deferred (some [])) }) (o := .deferred (some [])) (C' := C) rfl rfl rfl rfl (.refl C) (fun _ _ h => h) (fun _ _ h => .inl h)
  have hown : ∀ β, Own lam (w.heap.size :: ms) β → Own lam ms β ∨ β = w.heap.size := by
    rintro β (h | h)
    · exact .inl (.inl h)
    · rcases List.mem_cons.1 h with rfl | h
      · exact .inr rfl
      · exact .inl (.inr h)
  constructor
  · exact { wr := s'.wr, env := s'.env, box := s'.box, inj := s'.inj, mark := fun r hr => by
              rcases List.mem_cons.1 hr with rfl | hr
              · simp
              · exact s'.mark r hr
            nodup := List.nodup_cons.2 ⟨fun h => by have := s.own_lt (.inr h); omega, s.nodup⟩,
            live := fun β ho l => by
              rcases hown β ho with ho | rfl
              · exact s'.live β ho l
              · have := s.wr.live_lt l; omega
            osig := fun β x v ho h e => by
              rcases hown β ho with ho | rfl
              · exact s'.osig β x v ho h e
              · have := s.wr.sig_lt h; omega
            df := .mark _ s'.df, up := s'.up, fn := s'.fn, rnd := s'.rnd }
  · exact { e' with own := fun β hb o => (hown β o).elim .inr (fun e => absurd hb (by omega)) }
theorem noBox_SR {lm : Mp (Nat × List AV)} {v : AV} {u : Value} (h : SR C lam lm v u) : SR C (fun _ => none) .nil (noBox v) u := by
  cases v <;> first | exact h | trivial
theorem env_noBox (s : St C lam ms F b a w cs) (t : Tmp) : SR C (fun _ => none) .nil (tmpV (F.e.map noBox) t) (a.tmps.getD t undef) := by
  have h := s.env t
  unfold tmpV
  rw [Mp.get_map]
  have e : F.tmp t = match F.e.get t with | some v => v | none => undefA := rfl
  rw [e] at h
  cases hg : F.e.get t with
  | none => rw [hg] at h; exact h
  | some v => rw [hg] at h; exact noBox_SR h
theorem rangeFunc_ok {X : Ctx} {cl : FuncId → List AV → Heap → COut} (hP : NoNum X.P) (hc : ClOK X.P cl) (s : St C lam ms F b a w cs) {g : Operand} {ps : Array Tmp} {assign body : Code} {fid : FuncId} {first capt : List AV} (hr : F.rnd = false)
    (hg : F.opv g = some (.func (.func fid) first capt)) (hok : codeOk a.tmps.size (.rangeFunc g ps assign body) = true) :
    Outs X.P (lone (b.atR a (.code (.rangeFunc g ps assign body) :: k)) cs w) C lam ms F b a w cs k
      (match cl fid ((first ++ [.yield F.hp.next]) ++ capt) (F.hp.new (.loop F.f (F.e.map noBox) ps.toList assign body .ready none)) with
      | .ret _ h _ => (match h.get F.hp.next with
        | some (.loop f e ps a b st pend) => if st = .busy then .fail else
          (let F' := { F with hp := h.put F.hp.next (.loop f e ps a b .exhausted pend) }
          match pend with
          | none => .norm F'
          | some .ret => .ret F'
          | some (.exit i) => .exit i F'
          | _ => .fail)
        | _ => .fail)
      | _ => .fail) := by
  simp only [codeOk, Bool.and_eq_true] at hok
  obtain ⟨hps, has, hbo⟩ := hok
  have hro : b.roundOf = none := by
    have := s.rnd
    cases h : b.roundOf with
    | none => rfl
    | some l => rw [h, hr] at this; cases this
  obtain ⟨vs, ws, eg, rv, rw'⟩ := (s.opv hg).func_inv
  obtain ⟨s1, x1⟩ := s.pushMark
  let w1 : World := { w with heap := w.heap.push (.deferred (some [])) }
  let rec1 : Loop := { state := .ready, pending := none, fn := b.fn, tmps := a.tmps, params := ps, assign, body, defers := w.heap.size }
  let w2 : World := { w1 with heap := w1.heap.push (.loop rec1) }
  let L : Loc := ⟨w1.heap.size, 0, 0, 0⟩
  let a1 : Act := { a with defers := { target := .collected w.heap.size, args := #[] } :: a.defers }
  have hle : C.le (muPush C F.hp.next L) := muPush_le s1.wr L
  obtain ⟨s2, x2⟩ := s1.fresh (w' := w2) (o := .loop rec1) (blk := .loop F.f (F.e.map noBox) ps.toList assign body .ready none) (L := L) rfl rfl rfl rfl rfl
    ⟨rec1, by simp [w2, L], s.fn, rfl, rfl, rfl, rfl, rfl, has, hbo, fun p hp => by have := List.all_eq_true.1 hps p hp; simpa using this, fun t => (env_noBox s t).mono hle⟩
  have hent : (Instr.enterLoop b.fn a.tmps ps assign body b.roundOf).run X.P w = .ok (w1.heap.size, [{ target := .collected w.heap.size, args := #[] }]) w2 := by
    rw [hro]
    simp [Instr.enterLoop, w2, w1, rec1]
  have hres : (resolve a.eval (rangeCall g w1.heap.size) 0).run X.P w2 = .ok { target := .fn (.func fid) ws, args := vs ++ #[.func (.yield w1.heap.size) #[] #[]] } w2 := by
    have e : (#[Operand.const (.func (.yield w1.heap.size) #[] #[])] : Array Operand).map a.eval = #[.func (.yield w1.heap.size) #[] #[]] := by simp [Act.eval]
    simp only [resolve, rangeCall, e, eg, Deferred.ofValue, Sem.run_pure]
  have hvs : VRs (muPush C F.hp.next L) ((first ++ [.yield F.hp.next]) ++ capt) ((vs ++ #[.func (.yield w1.heap.size) #[] #[]]) ++ ws) := by
    refine VRs.append (VRs.append (rv.mono hle) ⟨rfl, fun i hi => ?_⟩) (rw'.mono hle)
    have : i = 0 := by simpa using hi
    subst this
    exact VR.yield (L := L) (by simp [muPush])
  cases hcl : cl fid ((first ++ [.yield F.hp.next]) ++ capt) (F.hp.new (.loop F.f (F.e.map noBox) ps.toList assign body .ready none)) with
  | fail => trivial
  | pan v h' up => trivial
  | ret v h' up =>
    obtain ⟨⟨fn, hfn, hb⟩, hans⟩ := hc fid _ _ _ w2 _ s2.wr hvs (by rw [hcl]; intro e; cases e)
    have hinv : (invoke (.fn (.func fid) ws) (vs ++ #[.func (.yield w1.heap.size) #[] #[]])).run X.P w2 = .ok (.enter fid ((vs ++ #[.func (.yield w1.heap.size) #[] #[]]) ++ ws)) w2 := by
      simp only [invoke, run_callFunc hP hfn hb]
    have hstep := stepR_rangeFunc (P := X.P) (b := b) (a := a) (k := k) (cs := cs) hent hres hinv
    have h1 := hans (b.atR a1 (.inRangeFunc w1.heap.size :: k)) cs
    rw [hcl] at h1
    obtain ⟨C3, w3, u, q1, q2, q3, q4⟩ := h1
    rw [finish_atR_inRangeFunc] at q1
    have s3 := s2.later q3 q4
    have x3 := (x1.trans x2).trans (q4.wide (Own lam (w.heap.size :: ms)))
    show Outs _ _ _ _ _ _ _ _ _ _ _ (match h'.get F.hp.next with
        | some (.loop f e ps a b st pend) => if st = .busy then .fail else
          (let F' := { F with hp := h'.put F.hp.next (.loop f e ps a b .exhausted pend) }
          match pend with
          | none => .norm F'
          | some .ret => .ret F'
          | some (.exit i) => .exit i F'
          | _ => .fail)
        | _ => .fail)
    split
    · rename_i f e ps' as' bo' st pend hget
      split
      · trivial
      · rename_i hbusy
        have hmu : C3.mu F.hp.next = some L := q4.le.mu _ _ (by simp [muPush])
        obtain ⟨L', e1, l1, g1, g2, g3, g4, g5, g6, g7, g8⟩ := s3.wr.blk F.hp.next _ hget
        rw [hmu] at e1
        cases e1
        have hend : (Instr.endLoop w1.heap.size).run X.P w3 = .ok pend { w3 with heap := w3.heap.setIfInBounds w1.heap.size (.loop { l1 with state := .exhausted }) } := by
          have hst : (l1.state == LoopState.busy) = false := by rw [g6]; cases st <;> first | rfl | exact absurd rfl hbusy
          have g1 : w3.heap[w1.heap.size]? = some (.loop l1) := g1
          simp only [Instr.endLoop, Sem.run_bind, run_getLoop g1, Result.andThen_ok, hst, Bool.false_eq_true, if_false, run_setObj g1 (fun _ _ _ h => by cases h), Sem.run_pure, g7]
        obtain ⟨s4, x4⟩ := s3.putHp (w' := { w3 with heap := w3.heap.setIfInBounds w1.heap.size (.loop { l1 with state := .exhausted }) }) (blk' := .loop f e ps' as' bo' .exhausted pend) hget hmu (by simp) (fun β hb => heap_set_other hb)
          ⟨_, heap_set_same g1, g2, g3, g4, g5, rfl, g7, g8⟩ rfl rfl rfl
        have hsteps : Steps X.P (lone (b.atR a (.code (.rangeFunc g ps assign body) :: k)) cs w) (lone (b.atR a1 ((pend.map Item.code).toList ++ k)) cs _) := .head hstep (q1.trans (.one (stepR_endRangeFunc hend)))
        have hfin := (⟨rfl, s4, x3.trans x4, .refl b cs⟩ : Fin C lam ms F b a w cs _ C3 lam (w.heap.size :: ms) a1 cs _)
        cases pend with
        | none => exact ⟨_, _, _, _, _, _, hsteps, hfin⟩
        | some c =>
          cases c <;> try trivial
          case exit i => exact ⟨_, _, _, _, _, _, k, hsteps, rfl, hfin⟩
          case ret => exact ⟨_, _, _, _, _, _, k, hsteps, hfin⟩
    · trivial
def DrawOK (X : Ctx) : Prop :=
  ∀ (cl : FuncId → List AV → Heap → COut) (rd : Nat → List AV → Heap → COut), ClOK X.P cl → RdOK X.P rd →
    ∀ (id : Nat) (ops : Array Oper) (F : Fr) (C : Cfg) (lam : Nat → Option Nat) (ms : List Nat) (b : Frame) (a : Act) (w : World) (cs : List Frame) (k : List Item), St C lam ms F b a w cs → dstsLt a.tmps.size ops.toList = true →
      Outs X.P (lone (b.atR a (.code (.region id ops true) :: k)) cs w) C lam ms F b a w cs k (runDraw X cl rd ops F)
def LoopOK (P : Program) (ev : Code → Fr → Out) : Prop :=
  ∀ (body : Code) (F : Fr) (C : Cfg) (lam : Nat → Option Nat) (ms : List Nat) (b : Frame) (a : Act) (w : World) (cs : List Frame) (k : List Item), St C lam ms F b a w cs → codeOk a.tmps.size body = true →
    Outs P (lone (b.atR a (.code body :: .inLoop body :: k)) cs w) C lam ms F b a w cs k (ev (.loop body) F)
theorem loop_step {X : Ctx} {ev : Code → Fr → Out} (hev : CodeOK X.P ev) (hl : LoopOK X.P ev) : LoopOK X.P (evStep X ev) := by
  intro body F C lam ms b a w cs k s hok
  have h1 := hev body F C lam ms b a w cs (.inLoop body :: k) s hok
  simp only [evStep]
  split
  · rename_i F' e
    rw [e] at h1
    obtain ⟨C', lam', ms', a', cs', w', q1, q2⟩ := h1
    exact Outs.head (q1.trans (.one stepR_inLoop)) q2 (hl body F' C' lam' ms' b a' w' cs' k q2.2.1 (by rw [q2.1]; exact hok))
  · rename_i o hne
    exact h1.behind (fun _ => rfl) hne
theorem code_step {X : Ctx} (hP : NoNum X.P) (hI : IntrOK X) (hD : DrawOK X) {ev : Code → Fr → Out} (hev : CodeOK X.P ev) (hl : LoopOK X.P ev) : CodeOK X.P (evStep X ev) := by
  intro c F C lam ms b a w cs k s hok
  have hcl := (callF_ok hev hP hI).cl
  have hrd := roundV_ok hev
  have one : ∀ {m : Machine}, step X.P (lone (b.atR a (.code c :: k)) cs w) = .next m → ∀ {o : Out}, Outs X.P m C lam ms F b a w cs k o → Outs X.P (lone (b.atR a (.code c :: k)) cs w) C lam ms F b a w cs k o := fun h _ ho => Outs.head (.one h) (.refl s) ho
  cases c with
  | skip => exact ⟨C, lam, ms, a, cs, w, .one stepR_skip, .refl s⟩
  | label l => exact ⟨C, lam, ms, a, cs, w, .one stepR_label, .refl s⟩
  | exit id => exact ⟨C, lam, ms, a, cs, w, k, .refl _ _, rfl, .refl s⟩
  | ret => exact ⟨C, lam, ms, a, cs, w, k, .refl _ _, .refl s⟩
  | seq x y =>
    simp only [codeOk, Bool.and_eq_true] at hok
    have h1 := hev x F C lam ms b a w cs (.code y :: k) s hok.1
    simp only [evStep]
    refine one stepR_seq ?_
    split
    · rename_i F' e
      rw [e] at h1
      obtain ⟨C', lam', ms', a', cs', w', q1, q2⟩ := h1
      exact Outs.head q1 q2 (hev y F' C' lam' ms' b a' w' cs' k q2.2.1 (by rw [q2.1]; exact hok.2))
    · rename_i o hne
      exact h1.behind (fun _ => rfl) hne
  | cond c x y =>
    simp only [codeOk, Bool.and_eq_true] at hok
    simp only [evStep]
    split
    · rename_i e
      have hv : a.eval c = .bool true := ((s.opd e).out rfl).bool_inv
      exact one (stepR_cond hv) (hev x F C lam ms b a w cs k s hok.1)
    · rename_i e
      have hv : a.eval c = .bool false := ((s.opd e).out rfl).bool_inv
      exact one (stepR_cond hv) (hev y F C lam ms b a w cs k s hok.2)
    · trivial
  | block id x =>
    simp only [codeOk] at hok
    have h1 := hev x F C lam ms b a w cs (.inBlock id :: k) s hok
    simp only [evStep]
    refine one stepR_block ?_
    generalize ev x F = o at h1
    cases o with
    | norm F' =>
      obtain ⟨C', lam', ms', a', cs', w', q1, q2⟩ := h1
      exact ⟨C', lam', ms', a', cs', w', q1.trans (.one stepR_inBlock), q2⟩
    | exit i F' =>
      obtain ⟨C', lam', ms', a', cs', w', k1, q1, q3, q2⟩ := h1
      simp only
      split
      · rename_i e
        subst e
        have : exitTo i k1 = some k := by rw [q3]; simp [exitTo]
        exact ⟨C', lam', ms', a', cs', w', q1.trans (.one (stepR_exit this)), q2⟩
      · rename_i e
        refine ⟨C', lam', ms', a', cs', w', k1, q1, ?_, q2⟩
        rw [q3]
        simp only [exitTo]
        rw [if_neg (by simpa using fun e' => e e'.symm)]
    | ret F' => exact h1
    | pan v F' => exact h1
    | fail => trivial
  | loop x =>
    simp only [codeOk] at hok
    exact one stepR_loop (loop_step hev hl x F C lam ms b a w cs k s hok)
  | scope x =>
    simp only [codeOk] at hok
    have h1 := hev x F C lam ms b a w cs (.inScope x :: k) s hok
    simp only [evStep]
    refine one stepR_scope ?_
    generalize ev x F = o at h1
    cases o with
    | norm F' =>
      obtain ⟨C', lam', ms', a', cs', w', q1, q2⟩ := h1
      exact ⟨C', lam', ms', a', cs', w', q1.trans (.one stepR_inScope), q2⟩
    | _ => exact h1.behind (fun _ => rfl) (fun F' e => by cases e)
  | region id ops draw =>
    simp only [codeOk] at hok
    simp only [evStep]
    cases draw with
    | true => exact hD _ _ hcl hrd id ops F C lam ms b a w cs k s hok
    | false =>
      refine one stepR_region ?_
      have := runOps_ok (X := X) (k := k) hP hcl hrd (ops := ops) ops.toList 0 C lam ms F a w cs s (fun j o h => by simpa using h) hok
      rw [show List.range' 0 ops.toList.length = List.range ops.size from by rw [List.range_eq_range']; simp] at this
      exact this
  | rangeFunc g ps assign body =>
    simp only [evStep]
    split
    · trivial
    · rename_i hr
      split
      · rename_i fid first capt hg
        exact rangeFunc_ok hP hcl s (by simpa using hr) hg hok
      · trivial
  | _ => trivial
theorem ev_ok {X : Ctx} (hP : NoNum X.P) (hI : IntrOK X) (hD : DrawOK X) : ∀ n, CodeOK X.P (ev X n) ∧ LoopOK X.P (ev X n) := by
  intro n
  induction n with
  | zero => exact ⟨fun _ _ _ _ _ _ _ _ _ _ _ _ => trivial, fun _ _ _ _ _ _ _ _ _ _ _ _ => trivial⟩
  | succ n ih => exact ⟨code_step hP hI hD ih.1 ih.2, loop_step ih.1 ih.2⟩
end
end Go.AM
set_option linter.unusedSimpArgs false
set_option linter.unusedVariables false
set_option linter.unusedSectionVars false
namespace Go.AM
open Go
variable [Keep]
section
variable {F G : Fr} {P : Program}
theorem opv_congr {x : Operand} (h : G.opd x = F.opd x) : G.opv x = F.opv x := by unfold Fr.opv; rw [h]
theorem opvs_congr : ∀ {l : List Operand}, (∀ x ∈ l, G.opd x = F.opd x) → G.opvs l = F.opvs l := by
  intro l
  induction l with
  | nil => intro _; rfl
  | cons x l ih =>
    intro h
    simp only [Fr.opvs]
    rw [opv_congr (h x (by simp)), ih (fun y hy => h y (by simp [hy]))]
theorem parts_congr : ∀ {l : List (Nat × Operand)}, (∀ p ∈ l, G.opd p.2 = F.opd p.2) → G.parts l = F.parts l := by
  intro l
  induction l with
  | nil => intro _; rfl
  | cons p l ih =>
    intro h
    obtain ⟨i, x⟩ := p
    simp only [Fr.parts]
    rw [opv_congr (h (i, x) (by simp)), ih (fun y hy => h y (by simp [hy]))]
theorem mem_congr (h1 : G.lm = F.lm) (h2 : G.hp = F.hp) (p : AV) : G.mem p = F.mem p := by
  unfold Fr.mem
  rw [h1, h2]
theorem rd_congr {X : Ctx} {d : Option Tmp} {op : Op} (ho : ∀ x ∈ op.operands.toList, G.opd x = F.opd x) (h1 : G.lm = F.lm) (h2 : G.hp = F.hp) : rdV X G d op = rdV X F d op := by
  cases op <;> simp only [rdV]
  case move x => exact ho x (by simp [Op.operands])
  case assign x => exact ho x (by simp [Op.operands])
  case pick c x y => simp only [Fr.pickV]; rw [opv_congr (ho c (by simp [Op.operands])), opv_congr (ho x (by simp [Op.operands])), opv_congr (ho y (by simp [Op.operands]))]
  case alloc t => simp only [Fr.allocV]; rw [h1]
  case build t ps => simp only [Fr.buildV]; rw [parts_congr (fun p hp => ho p.2 (by simp only [Op.operands]; exact List.mem_map_of_mem hp))]
  case buildSlice t n ps => simp only [Fr.buildSliceV]; rw [parts_congr (fun p hp => ho p.2 (by simp only [Op.operands]; exact List.mem_map_of_mem hp))]
  case load t x => simp only [Fr.loadV]; rw [ho x (by simp [Op.operands])]; split <;> first | rfl | rw [mem_congr h1 h2]
  case nilCheck x => simp only [Fr.nilCheckV]; rw [ho x (by simp [Op.operands])]
  case binOp bo t x y p => simp only [Fr.binV2]; rw [opv_congr (ho x (by simp [Op.operands])), opv_congr (ho y (by simp [Op.operands]))]
  case unOp uo t x => simp only [Fr.unV1]; rw [opv_congr (ho x (by simp [Op.operands]))]
  case convert t u x => simp only [Fr.convV1]; rw [opv_congr (ho x (by simp [Op.operands]))]
  case makeInterface t x => simp only [Fr.ifaceV]; rw [opv_congr (ho x (by simp [Op.operands]))]
  case makeFunc fn p q => simp only [Fr.funcV]; rw [opvs_congr (fun x hx => ho x (by simp only [Op.operands, Array.toList_append]; exact List.mem_append_left _ hx)), opvs_congr (fun x hx => ho x (by simp only [Op.operands, Array.toList_append]; exact List.mem_append_right _ hx))]
  case slice t x lo hi mx =>
    simp only [Fr.sliceV1]
    rw [opv_congr (ho x (by simp [Op.operands])), h2]
    have e1 : lo.map G.opv = lo.map F.opv := by cases lo with | none => rfl | some y => simp [opv_congr (ho y (by simp [Op.operands]))]
    have e2 : hi.map G.opv = hi.map F.opv := by cases hi with | none => rfl | some y => simp [opv_congr (ho y (by simp [Op.operands]))]
    have e3 : mx.map G.opv = mx.map F.opv := by cases mx with | none => rfl | some y => simp [opv_congr (ho y (by simp [Op.operands]))]
    rw [e1, e2, e3]
  case fieldAddr t x f => simp only [Fr.fieldAddrV]; rw [ho x (by simp [Op.operands])]
  case field t x f => simp only [Fr.fieldV]; rw [opv_congr (ho x (by simp [Op.operands]))]
  case indexAddr t x i => simp only [Fr.indexAddrV1]; rw [ho x (by simp [Op.operands]), opv_congr (ho i (by simp [Op.operands])), h2]
  case index t x i => simp only [Fr.indexV1]; rw [opv_congr (ho x (by simp [Op.operands])), opv_congr (ho i (by simp [Op.operands]))]
  case lookup t x i ok => simp only [Fr.lookupV1]; rw [opv_congr (ho x (by simp [Op.operands])), opv_congr (ho i (by simp [Op.operands])), h2]
  case typeAssert x t u ok => simp only [Fr.assertV1]; rw [opv_congr (ho x (by simp [Op.operands]))]
  case extract x i => simp only [Fr.extractV]; rw [opv_congr (ho x (by simp [Op.operands]))]
  case call c =>
    simp only [Fr.callRd]
    split
    · simp only [Fr.builtinV1]
      rw [opvs_congr (fun x hx => ho x (by simp only [Op.operands, Call.operands, Array.toList_append]; exact List.mem_append_right _ hx)), h2]
    · rfl
theorem rd_blind {X : Ctx} {d : Option Tmp} {o : Oper} (hr : mayRead o = false) (ha : isAlloc o = false) (ho : ∀ x ∈ o.op.operands.toList, G.opd x = F.opd x) : rdV X G d o.op = rdV X F d o.op := by
  unfold mayRead at hr
  unfold isAlloc at ha
  revert hr ha ho
  generalize o.op = op
  intro hr ha ho
  cases op <;> simp only [rdV] <;> simp at hr ha
  case move x => exact ho x (by simp [Op.operands])
  case assign x => exact ho x (by simp [Op.operands])
  case pick c x y => simp only [Fr.pickV]; rw [opv_congr (ho c (by simp [Op.operands])), opv_congr (ho x (by simp [Op.operands])), opv_congr (ho y (by simp [Op.operands]))]
  case build t ps => simp only [Fr.buildV]; rw [parts_congr (fun p hp => ho p.2 (by simp only [Op.operands]; exact List.mem_map_of_mem hp))]
  case buildSlice t n ps => simp only [Fr.buildSliceV]; rw [parts_congr (fun p hp => ho p.2 (by simp only [Op.operands]; exact List.mem_map_of_mem hp))]
  case nilCheck x => simp only [Fr.nilCheckV]; rw [ho x (by simp [Op.operands])]
  case binOp bo t x y p => simp only [Fr.binV2]; rw [opv_congr (ho x (by simp [Op.operands])), opv_congr (ho y (by simp [Op.operands]))]
  case unOp uo t x => simp only [Fr.unV1]; rw [opv_congr (ho x (by simp [Op.operands]))]
  case convert t u x => simp only [Fr.convV1]; rw [opv_congr (ho x (by simp [Op.operands]))]
  case makeInterface t x => simp only [Fr.ifaceV]; rw [opv_congr (ho x (by simp [Op.operands]))]
  case makeFunc fn p q => simp only [Fr.funcV]; rw [opvs_congr (fun x hx => ho x (by simp only [Op.operands, Array.toList_append]; exact List.mem_append_left _ hx)), opvs_congr (fun x hx => ho x (by simp only [Op.operands, Array.toList_append]; exact List.mem_append_right _ hx))]
  case fieldAddr t x f => simp only [Fr.fieldAddrV]; rw [ho x (by simp [Op.operands])]
  case field t x f => simp only [Fr.fieldV]; rw [opv_congr (ho x (by simp [Op.operands]))]
  case index t x i => simp only [Fr.indexV1]; rw [opv_congr (ho x (by simp [Op.operands])), opv_congr (ho i (by simp [Op.operands]))]
  case typeAssert x t u ok => simp only [Fr.assertV1]; rw [opv_congr (ho x (by simp [Op.operands]))]
  case extract x i => simp only [Fr.extractV]; rw [opv_congr (ho x (by simp [Op.operands]))]
def setE (e : Mp AV) : OOut → OOut
  | .val v F => .val v { F with e := e }
  | .pan v F => .pan v { F with e := e }
  | .fail => .fail
def setEo (e : Mp AV) : Option Fr → Option Fr
  | some F => some { F with e := e }
  | none => none
def setEp (e : Mp AV) : Option (AV × Fr) → Option (AV × Fr)
  | some (v, F) => some (v, { F with e := e })
  | none => none
theorem write_setE {e : Mp AV} {p : AV} {vs : List AV} : ({ F with e := e } : Fr).write p vs = setEo e (F.write p vs) := by
  unfold Fr.write
  split
  · simp only
    split
    · split <;> rfl
    · rfl
  · simp only
    split
    · split <;> rfl
    · rfl
  · simp only
    split
    · split
      · split
        · split <;> rfl
        · rfl
      · rfl
    · rfl
  · rfl
theorem append_setE {e : Mp AV} {t : TypeId} {x : AV} {new : List AV} : appendV P { F with e := e } t x new = setEp e (appendV P F t x new) := by
  unfold appendV
  split
  · rfl
  · split
    · rfl
    · split
      · split <;> rfl
      · split
        · simp only; split <;> rfl
        · simp only; split <;> rfl
        · simp only
          split
          · split <;> rfl
          · rfl
        · rfl
theorem ef_congr {X : Ctx} {cl : FuncId → List AV → Heap → COut} {rd : Nat → List AV → Heap → COut} {e : Mp AV} {d : Option Tmp} {op : Op} (hb : boxy op = false) (ho : ∀ x ∈ op.operands.toList, ({ F with e := e } : Fr).opd x = F.opd x) :
    efV X cl rd { F with e := e } d op = setE e (efV X cl rd F d op) := by
  have hv : ∀ x ∈ op.operands.toList, ({ F with e := e } : Fr).opv x = F.opv x := fun x hx => opv_congr (ho x hx)
  cases op <;> simp only [efV] <;> first | (simp [boxy] at hb; done) | skip
  case store t p x =>
    simp only [Fr.storeE]
    rw [ho p (by simp [Op.operands]), hv x (by simp [Op.operands])]
    split
    · split
      · split
        · rw [write_setE]
          cases Fr.write F _ _ <;> rfl
        · rfl
      · rfl
    · rfl
  case buildSlice t n ps =>
    simp only [Fr.rowE, Fr.buildSliceV]
    rw [parts_congr (fun p hp => ho p.2 (by simp only [Op.operands]; exact List.mem_map_of_mem hp))]
    split <;> rfl
  case makeMap t r => simp only [Fr.mapE]; split <;> rfl
  case makeSlice t l c =>
    simp only [Fr.makeSliceE]
    rw [hv l (by simp [Op.operands]), hv c (by simp [Op.operands])]
    split
    · split
      · split <;> rfl
      · rfl
    · rfl
  case mapUpdate t m k x =>
    simp only [Fr.mapUpdateE]
    rw [hv m (by simp [Op.operands]), hv k (by simp [Op.operands]), hv x (by simp [Op.operands])]
    split
    · split
      · split
        · split <;> rfl
        · rfl
      · rfl
    · rfl
  case range t x =>
    simp only [Fr.rangeE]
    rw [hv x (by simp [Op.operands])]
    split <;> rfl
  case next x st =>
    simp only [Fr.nextE]
    rw [hv x (by simp [Op.operands])]
    split
    · split
      · split <;> rfl
      · rfl
    · rfl
  case defer c =>
    simp only [Fr.deferE]
    split
    · rename_i f hf hr
      rw [hv f (by simp [Op.operands, Call.operands, hf]), opvs_congr (fun x hx => ho x (by simp only [Op.operands, Call.operands, Array.toList_append]; exact List.mem_append_right _ hx))]
      split <;> rfl
    · rfl
  case panic x =>
    simp only [Fr.panicE]
    rw [hv x (by simp [Op.operands])]
    split <;> rfl
  case call c =>
    have hargs : ({ F with e := e } : Fr).opvs c.args.toList = F.opvs c.args.toList := opvs_congr (fun x hx => ho x (by simp only [Op.operands, Call.operands, Array.toList_append]; exact List.mem_append_right _ hx))
    have hout : ∀ r, outOf { F with e := e } r = setE e (outOf F r) := fun r => by cases r <;> rfl
    simp only [Fr.callOp]
    split
    · rename_i f hf
      simp only [Fr.callE]
      rw [hv f (by simp [Op.operands, Call.operands, hf]), hargs]
      split
      · exact hout _
      · rfl
    · rename_i x name hf
      simp only [Fr.invokeE]
      rw [hv x (by simp [Op.operands, Call.operands, hf]), hargs]
      split
      · split
        · exact hout _
        · rfl
      · rfl
    · rename_i bi hf
      simp only [Fr.builtinE]
      split
      · simp only [Fr.appendE]
        rw [hargs]
        have hok : ∀ t x new, okO (appendV X.P { F with e := e } t x new) = setE e (okO (appendV X.P F t x new)) := fun t x new => by
          rw [append_setE]
          cases appendV X.P F t x new with
          | none => rfl
          | some p => rfl
        split
        · split
          · split
            · exact hok _ _ _
            · rfl
          · split
            · rfl
            · split
              · exact hok _ _ _
              · rfl
          · rfl
        · rfl
      · split
        · rename_i x hx
          have hx' : x ∈ c.args.toList := by rw [hx]; simp
          simp only [Fr.panicE]
          rw [hv x (by simp only [Op.operands, Call.operands, Array.toList_append]; exact List.mem_append_right _ hx')]
          split <;> rfl
        · rfl
      · split
        · simp only [Fr.recoverE]
          split
          · rfl
          · split <;> rfl
        · rfl
      · rfl
  all_goals rfl
end
end Go.AM
set_option linter.unusedSimpArgs false
set_option linter.unusedVariables false
set_option linter.unusedSectionVars false
namespace Go.AM
open Go
variable [Keep]
section
variable {F G : Fr} {ops : Array Oper} {o : Oper}
def Agree (ops : Array Oper) (o : Oper) (F G : Fr) : Prop := ∀ t ∈ looksAt ops o, F.e.get t = G.e.get t
theorem Agree.opd (h : Agree ops o F G) : ∀ x ∈ o.op.operands.toList, F.opd x = G.opd x := by
  intro x hx
  cases x with
  | tmp t =>
    have ht : t ∈ looksAt ops o := by
      unfold looksAt
      exact List.mem_append_left _ (List.mem_filterMap.2 ⟨.tmp t, hx, rfl⟩)
    simp only [Fr.opd, Fr.tmp]
    rw [h t ht]
  | _ => rfl
theorem Agree.yielded (h : Agree ops o F G) {j : Nat} {b : Bool} (hg : o.guard = some (j, b)) : yieldedA ops F j = yieldedA ops G j := by
  unfold yieldedA
  cases hj : ops[j]? with
  | none => rfl
  | some p =>
    simp only
    cases hd : p.dst with
    | none => rfl
    | some t =>
      have ht : t ∈ looksAt ops o := by
        unfold looksAt
        refine List.mem_append_right _ ?_
        rw [hg]
        simp [hj, hd]
      simp only
      rw [h t ht]
theorem Agree.wanted (h : Agree ops o F G) : wantedA ops F o = wantedA ops G o := by
  unfold wantedA
  cases hg : o.guard with
  | none => rfl
  | some p => obtain ⟨j, b⟩ := p; simp only; rw [h.yielded hg]
theorem Agree.guardOk (h : Agree ops o F G) : guardOk ops F o = guardOk ops G o := by
  unfold Go.AM.guardOk
  cases hg : o.guard with
  | none => rfl
  | some p =>
    obtain ⟨j, b⟩ := p
    simp only
    cases hj : ops[j]? with
    | none => rfl
    | some p =>
      simp only
      cases hd : p.dst with
      | none => rfl
      | some t =>
        have ht : t ∈ looksAt ops o := by
          unfold looksAt
          refine List.mem_append_right _ ?_
          rw [hg]
          simp [hj, hd]
        simp only
        rw [h t ht]
theorem stepOp_same {X : Ctx} {cl : FuncId → List AV → Heap → COut} {rd : Nat → List AV → Heap → COut} {e : Mp AV} (hb : boxy o.op = false) (h : Agree ops o { F with e := e } F) :
    stepOp X cl rd ops o { F with e := e } = (match stepOp X cl rd ops o F with
      | .val v F' => .val v { F' with e := (({ F with e := e } : Fr).put o.dst v).e }
      | .pan v F' => .pan v { F' with e := e }
      | .fail => .fail) := by
  unfold stepOp
  rw [h.guardOk, h.wanted]
  split
  · rfl
  · split
    · simp only
      split
      · rw [ef_congr hb h.opd]
        cases efV X cl rd F o.dst o.op with
        | val v F' => simp only [setE]; congr 1; cases o.dst <;> rfl
        | pan v F' => rfl
        | fail => rfl
      · rw [rd_congr (G := { F with e := e }) (F := F) h.opd rfl rfl]
        cases rdV X F o.dst o.op with
        | none => rfl
        | some v => simp only; congr 1; cases o.dst <;> rfl
    · simp only; congr 1; cases o.dst <;> rfl
theorem stepOp_read {X : Ctx} {cl : FuncId → List AV → Heap → COut} {rd : Nat → List AV → Heap → COut} {v : AV} {F' : Fr} (hf : G.f = F.f) (he : isEffAt X F.f o = false) (h : Agree ops o G F) (h1 : stepOp X cl rd ops o F = .val v F')
    (hr : wantedA ops F o = true → rdV X G o.dst o.op = rdV X F o.dst o.op) : stepOp X cl rd ops o G = .val v (G.put o.dst v) ∧ F' = F.put o.dst v := by
  unfold stepOp at h1 ⊢
  rw [h.guardOk, h.wanted, hf]
  split at h1
  · cases h1
  · rename_i hg
    rw [if_neg hg]
    split at h1
    · rename_i hw
      rw [he] at h1 ⊢
      simp only [Bool.false_eq_true, if_false] at h1 ⊢
      rw [if_pos hw, hr hw]
      cases hv : rdV X F o.dst o.op with
      | none => rw [hv] at h1; cases h1
      | some u => rw [hv] at h1; cases h1; exact ⟨rfl, rfl⟩
    · rename_i hw
      rw [if_neg hw]
      cases h1
      exact ⟨rfl, rfl⟩
end
end Go.AM
set_option linter.unusedSimpArgs false
set_option linter.unusedVariables false
set_option linter.unusedSectionVars false
namespace Go.AM
open Go
variable [Keep]
def wrB (ops : Array Oper) (t : Tmp) (i : Nat) : Bool := match ops[i]? with | some o => o.dst == some t | none => false
def efB (X : Ctx) (f : FuncId) (ops : Array Oper) (i : Nat) : Bool := match ops[i]? with | some o => isEffD X f o | none => false
def valOf (ts : List (Nat × Trace)) (i : Nat) : AV := match traceOf ts i with | some t => t.val | none => .junk
def aftOf (F0 : Fr) (ts : List (Nat × Trace)) (i : Nat) : Fr := match traceOf ts i with | some t => t.after | none => F0
def envAt (ops : Array Oper) (F0 : Fr) (ts : List (Nat × Trace)) (A : List Nat) (t : Tmp) : Option AV :=
  match (A.filter (wrB ops t)).getLast? with
  | none => F0.e.get t
  | some z => some (valOf ts z)
def memAt (X : Ctx) (ops : Array Oper) (F0 : Fr) (ts : List (Nat × Trace)) (A : List Nat) : Fr :=
  match (A.filter (efB X F0.f ops)).getLast? with
  | none => F0
  | some z => aftOf F0 ts z
structure At (X : Ctx) (ops : Array Oper) (F0 : Fr) (ts : List (Nat × Trace)) (A : List Nat) (F : Fr) : Prop where
  env : ∀ t, F.e.get t = envAt ops F0 ts A t
  mem : F = { memAt X ops F0 ts A with e := F.e }
section
variable {X : Ctx} {cl : FuncId → List AV → Heap → COut} {rd : Nat → List AV → Heap → COut} {ops : Array Oper} {F0 F : Fr} {ts : List (Nat × Trace)}
theorem At.start : At X ops F0 ts [] F0 := ⟨fun _ => rfl, rfl⟩
theorem envAt_snoc {A : List Nat} {i : Nat} {o : Oper} (ho : ops[i]? = some o) (t : Tmp) : envAt ops F0 ts (A ++ [i]) t = if o.dst = some t then some (valOf ts i) else envAt ops F0 ts A t := by
  unfold envAt
  rw [List.filter_append]
  have hw : wrB ops t i = (o.dst == some t) := by simp [wrB, ho]
  by_cases h : o.dst = some t
  · have : wrB ops t i = true := by rw [hw]; simpa using h
    simp [List.filter_cons, this, h]
  · have : wrB ops t i = false := by rw [hw]; simpa using h
    simp [List.filter_cons, this, h]
theorem memAt_snoc {A : List Nat} {i : Nat} : memAt X ops F0 ts (A ++ [i]) = if efB X F0.f ops i then aftOf F0 ts i else memAt X ops F0 ts A := by
  unfold memAt
  rw [List.filter_append]
  cases h : efB X F0.f ops i <;> simp [List.filter_cons, h]
theorem put_get (F : Fr) (d : Option Tmp) (v : AV) (t : Tmp) : (F.put d v).e.get t = if d = some t then some v else F.e.get t := by
  cases d with
  | none => simp [Fr.put]
  | some s => simp only [Fr.put, Mp.get_set]; by_cases h : s = t <;> simp [h]
theorem write_keeps {p : AV} {vs : List AV} {F' : Fr} (h : F.write p vs = some F') : F'.e = F.e ∧ F'.f = F.f := by
  unfold Fr.write at h
  (repeat' split at h) <;> first | (cases h; done) | (cases h; exact ⟨rfl, rfl⟩)
theorem append_keeps {P : Program} {t : TypeId} {x v : AV} {new : List AV} {F' : Fr} (h : appendV P F t x new = some (v, F')) : F'.e = F.e ∧ F'.f = F.f := by
  unfold appendV at h
  (repeat' split at h) <;> first | (cases h; done) | (cases h; exact ⟨rfl, rfl⟩)
theorem out_keeps {r : COut} {v : AV} {F' : Fr} (h : outOf F r = .val v F') : F'.e = F.e ∧ F'.f = F.f := by
  cases r <;> simp [outOf] at h
  obtain ⟨_, rfl⟩ := h
  exact ⟨rfl, rfl⟩
theorem ef_keeps {d : Option Tmp} {op : Op} {v : AV} {F' : Fr} (h : efV X cl rd F d op = .val v F') : F'.e = F.e ∧ F'.f = F.f := by
  have box : ∀ {w : AV}, okO (newBox X F d w) = .val v F' → F'.e = F.e ∧ F'.f = F.f := fun h => by
    have h := okO_val h
    unfold newBox at h
    (repeat' split at h) <;> first | (cases h; done) | (cases h; exact ⟨rfl, rfl⟩)
  cases op <;> simp only [efV] at h <;> first | (cases h; done) | skip
  case alloc t => unfold Fr.allocE at h; split at h; exact box h; cases h
  case box t x => unfold Fr.boxE at h; split at h; exact box h; cases h
  case store t p x =>
    unfold Fr.storeE at h
    split at h
    · split at h
      · split at h
        · split at h
          · rename_i hw; cases h; exact write_keeps hw
          · cases h
        · cases h
      · cases h
    · cases h
  case buildSlice t n ps => unfold Fr.rowE at h; (repeat' split at h) <;> first | (cases h; done) | (cases h; exact ⟨rfl, rfl⟩)
  case makeMap t r => unfold Fr.mapE at h; (repeat' split at h) <;> first | (cases h; done) | (cases h; exact ⟨rfl, rfl⟩)
  case makeSlice t l c => unfold Fr.makeSliceE at h; (repeat' split at h) <;> first | (cases h; done) | (cases h; exact ⟨rfl, rfl⟩)
  case mapUpdate t m k x => unfold Fr.mapUpdateE at h; (repeat' split at h) <;> first | (cases h; done) | (cases h; exact ⟨rfl, rfl⟩)
  case range t x => unfold Fr.rangeE at h; (repeat' split at h) <;> first | (cases h; done) | (cases h; exact ⟨rfl, rfl⟩)
  case next x st => unfold Fr.nextE at h; (repeat' split at h) <;> first | (cases h; done) | (cases h; exact ⟨rfl, rfl⟩)
  case defer c => unfold Fr.deferE at h; (repeat' split at h) <;> first | (cases h; done) | (cases h; exact ⟨rfl, rfl⟩)
  case panic x => unfold Fr.panicE at h; (repeat' split at h) <;> first | (cases h; done) | (cases h; exact ⟨rfl, rfl⟩)
  case call c =>
    unfold Fr.callOp at h
    split at h
    · unfold Fr.callE at h
      split at h
      · exact out_keeps h
      · cases h
    · unfold Fr.invokeE at h
      split at h
      · split at h
        · exact out_keeps h
        · cases h
      · cases h
    · unfold Fr.builtinE at h
      split at h
      · unfold Fr.appendE at h
        (repeat' split at h) <;> first | (cases h; done) | exact append_keeps (okO_val h)
      · split at h
        · unfold Fr.panicE at h; (repeat' split at h) <;> first | (cases h; done) | (cases h; exact ⟨rfl, rfl⟩)
        · cases h
      · split at h
        · unfold Fr.recoverE at h; (repeat' split at h) <;> first | (cases h; done) | (cases h; exact ⟨rfl, rfl⟩)
        · cases h
      · cases h
theorem stepOp_shape {o : Oper} {v : AV} {F' : Fr} (h : stepOp X cl rd ops o F = .val v F') :
    (∀ t, F'.e.get t = if o.dst = some t then some v else F.e.get t) ∧ (isEffAt X F.f o = false → F' = { F with e := F'.e }) ∧ F'.f = F.f := by
  have put : ∀ u, (F.put o.dst u) = { F with e := (F.put o.dst u).e } := fun u => by cases o.dst <;> rfl
  unfold stepOp at h
  split at h
  · cases h
  · split at h
    · split at h
      · rename_i he
        split at h
        · rename_i v1 F1 e1
          cases h
          obtain ⟨k1, k2⟩ := ef_keeps e1
          refine ⟨fun t => by rw [put_get, k1], fun hn => absurd (he.symm.trans hn) (by simp), ?_⟩
          cases o.dst <;> exact k2
        · rename_i r hne
          rw [h] at hne
          exact absurd rfl (hne v F')
      · split at h
        · cases h
          exact ⟨fun t => put_get _ _ _ _, fun _ => put _, by cases o.dst <;> rfl⟩
        · cases h
    · cases h
      exact ⟨fun t => put_get _ _ _ _, fun _ => put _, by cases o.dst <;> rfl⟩
theorem stepD_shape {o : Oper} {v : AV} {F' : Fr} (h : stepD X cl rd ops o F = .val v F') :
    (∀ t, F'.e.get t = if o.dst = some t then some v else F.e.get t) ∧ (isEffD X F.f o = false → F' = { F with e := F'.e }) ∧ F'.f = F.f := by
  have put : ∀ u, (F.put o.dst u) = { F with e := (F.put o.dst u).e } := fun u => by cases o.dst <;> rfl
  unfold stepD at h
  split at h
  · split at h
    · cases h
      exact ⟨fun t => put_get _ _ _ _, fun _ => put _, by cases o.dst <;> rfl⟩
    · cases h
  · rename_i ha
    obtain ⟨h1, h2, h3⟩ := stepOp_shape h
    exact ⟨h1, fun hn => h2 (by
      unfold isEffD at hn
      have ha : isAlloc o = false := by simpa using ha
      rw [ha] at hn
      simpa using hn), h3⟩
end
end Go.AM
set_option linter.unusedSimpArgs false
set_option linter.unusedVariables false
set_option linter.unusedSectionVars false
namespace Go.AM
open Go
variable [Keep]
structure StepAt (X : Ctx) (cl : FuncId → List AV → Heap → COut) (rd : Nat → List AV → Heap → COut) (ops : Array Oper) (F0 : Fr) (ts : List (Nat × Trace)) (A : List Nat) (i : Nat) (o : Oper) (FA FB : Fr) : Prop where
  op : ops[i]? = some o
  tr : traceOf ts i = some ⟨FA, valOf ts i, FB⟩
  st : stepD X cl rd ops o FA = .val (valOf ts i) FB
  at_ : At X ops F0 ts A FA
  fn : FA.f = F0.f
def StepsAt (X : Ctx) (cl : FuncId → List AV → Heap → COut) (rd : Nat → List AV → Heap → COut) (ops : Array Oper) (F0 : Fr) (ts : List (Nat × Trace)) (A0 L : List Nat) : Prop :=
  ∀ A i B, L = A ++ i :: B → ∃ o FA FB, StepAt X cl rd ops F0 ts (A0 ++ A) i o FA FB
section
variable {X : Ctx} {cl : FuncId → List AV → Heap → COut} {rd : Nat → List AV → Heap → COut} {ops : Array Oper} {F0 : Fr} {ts : List (Nat × Trace)}
theorem At.step {A0 : List Nat} {F F1 : Fr} {i : Nat} {o : Oper} {v : AV} (h : At X ops F0 ts A0 F) (hf : F.f = F0.f) (ho : ops[i]? = some o) (hs : stepD X cl rd ops o F = .val v F1) (ht : traceOf ts i = some ⟨F, v, F1⟩) :
    At X ops F0 ts (A0 ++ [i]) F1 ∧ F1.f = F0.f := by
  obtain ⟨k1, k2, k3⟩ := stepD_shape hs
  have hv : valOf ts i = v := by simp [valOf, ht]
  have ha : aftOf F0 ts i = F1 := by simp [aftOf, ht]
  refine ⟨⟨fun t => ?_, ?_⟩, k3.trans hf⟩
  · rw [k1, envAt_snoc ho, hv, h.env]
  · rw [memAt_snoc, ha]
    cases he : efB X F0.f ops i with
    | true => rfl
    | false =>
      have : isEffD X F.f o = false := by simp [efB, ho] at he; rw [hf]; exact he
      have e1 := k2 this
      rw [h.mem] at e1
      simp only [Bool.false_eq_true, if_false]
      exact e1
theorem traceOf_cons_ne {i j : Nat} {t : Trace} {ts : List (Nat × Trace)} (h : j ≠ i) : traceOf ((i, t) :: ts) j = traceOf ts j := by simp [traceOf, h]
theorem runD_norm : ∀ (L A0 : List Nat) (F F' : Fr) (ts1 : List (Nat × Trace)), L.Nodup → (∀ i ∈ L, traceOf ts i = traceOf ts1 i) → At X ops F0 ts A0 F → F.f = F0.f → runD X cl rd ops L F = .norm F' ts1 →
    At X ops F0 ts (A0 ++ L) F' ∧ StepsAt X cl rd ops F0 ts A0 L := by
  intro L
  induction L with
  | nil =>
    intro A0 F F' ts1 _ _ ha _ h
    simp only [runD] at h
    cases h
    exact ⟨by simpa using ha, fun A i B e => by simp at e⟩
  | cons i L ih =>
    intro A0 F F' ts1 hn ht ha hf h
    simp only [runD] at h
    split at h
    · cases h
    · rename_i o ho
      split at h
      · rename_i v F1 hs
        split at h
        · rename_i F'' ts2 hr
          cases h
          have hnd := List.nodup_cons.1 hn
          have hti : traceOf ts i = some ⟨F, v, F1⟩ := by rw [ht i (by simp)]; simp [traceOf]
          have htr : ∀ j ∈ L, traceOf ts j = traceOf ts2 j := fun j hj => by
            rw [ht j (by simp [hj])]
            exact traceOf_cons_ne fun e => hnd.1 (e ▸ hj)
          obtain ⟨a1, f1⟩ := ha.step hf ho hs hti
          obtain ⟨q1, q2⟩ := ih (A0 ++ [i]) F1 F' ts2 hnd.2 htr a1 f1 hr
          refine ⟨by simpa using q1, fun A j B e => ?_⟩
          cases A with
          | nil =>
            simp at e
            obtain ⟨rfl, rfl⟩ := e
            have hv : valOf ts i = v := by simp [valOf, hti]
            exact ⟨o, F, F1, ho, by rw [hv]; exact hti, by rw [hv]; exact hs, by simpa using ha, hf⟩
          | cons x A =>
            simp at e
            obtain ⟨rfl, rfl⟩ := e
            have := q2 A j B rfl
            simpa using this
        · cases h
        · cases h
      · cases h
      · cases h
theorem runD_pan : ∀ (L A0 : List Nat) (F F' : Fr) (i : Nat) (v : AV) (ts1 : List (Nat × Trace)), L.Nodup → (∀ j ∈ L, traceOf ts j = traceOf ts1 j) → At X ops F0 ts A0 F → F.f = F0.f → runD X cl rd ops L F = .pan i v F' ts1 →
    ∃ A B o FA, L = A ++ i :: B ∧ ops[i]? = some o ∧ stepD X cl rd ops o FA = .pan v F' ∧ At X ops F0 ts (A0 ++ A) FA ∧ FA.f = F0.f ∧ StepsAt X cl rd ops F0 ts A0 A ∧ ∀ j, (traceOf ts1 j).isSome = true → j ∈ A := by
  intro L
  induction L with
  | nil => intro A0 F F' i v ts1 _ _ _ _ h; simp only [runD] at h; cases h
  | cons k L ih =>
    intro A0 F F' i v ts1 hn ht ha hf h
    simp only [runD] at h
    split at h
    · cases h
    · rename_i o ho
      split at h
      · rename_i u F1 hs
        split at h
        · cases h
        · rename_i i' v' F'' ts2 hr
          cases h
          have hnd := List.nodup_cons.1 hn
          have hti : traceOf ts k = some ⟨F, u, F1⟩ := by rw [ht k (by simp)]; simp [traceOf]
          have htr : ∀ j ∈ L, traceOf ts j = traceOf ts2 j := fun j hj => by
            rw [ht j (by simp [hj])]
            exact traceOf_cons_ne fun e => hnd.1 (e ▸ hj)
          obtain ⟨a1, f1⟩ := ha.step hf ho hs hti
          obtain ⟨A, B, o', FA, q1, q2, q3, q4, q5, q6, q7⟩ := ih (A0 ++ [k]) F1 F' i v ts2 hnd.2 htr a1 f1 hr
          refine ⟨k :: A, B, o', FA, by rw [q1]; rfl, q2, q3, by simpa using q4, q5, fun A' j B' e => ?_, fun j hj => ?_⟩
          · cases A' with
            | nil =>
              simp at e
              obtain ⟨rfl, rfl⟩ := e
              have hv : valOf ts k = u := by simp [valOf, hti]
              exact ⟨o, F, F1, ho, by rw [hv]; exact hti, by rw [hv]; exact hs, by simpa using ha, hf⟩
            | cons x A' =>
              simp at e
              obtain ⟨rfl, e⟩ := e
              have := q6 A' j B' e
              simpa using this
          · by_cases e : j = k
            · subst e; simp
            · rw [traceOf_cons_ne e] at hj
              exact List.mem_cons_of_mem _ (q7 j hj)
        · cases h
      · rename_i v' F'' hs
        cases h
        exact ⟨[], L, o, F, rfl, ho, hs, by simpa using ha, hf, fun A j B e => by simp at e, fun j hj => by simp [traceOf] at hj⟩
      · cases h
end
end Go.AM
set_option linter.unusedSimpArgs false
set_option linter.unusedVariables false
set_option linter.unusedSectionVars false
namespace Go.AM
open Go
variable [Keep]
def bitsStep (acc : Array Nat) (o : Oper) : Nat := o.after.foldl (fun s e => if Region.binds .any e then s ||| 2 ^ e.on ||| acc.getD e.on 0 else s) 0
theorem fold_bits (acc : Array Nat) (i : Nat) : ∀ (es : List Edge) (s : Nat), (es.foldl (fun s e => if Region.binds .any e then s ||| 2 ^ e.on ||| acc.getD e.on 0 else s) s).testBit i = true →
    s.testBit i = true ∨ ∃ e ∈ es, Region.binds .any e = true ∧ (e.on = i ∨ (acc.getD e.on 0).testBit i = true) := by
  intro es
  induction es with
  | nil => intro s h; exact .inl h
  | cons e es ih =>
    intro s h
    simp only [List.foldl_cons] at h
    rcases ih _ h with h | ⟨e', he', hb, h⟩
    · split at h
      · rename_i hb
        simp only [Nat.testBit_or, Bool.or_eq_true, Nat.testBit_two_pow, decide_eq_true_eq] at h
        rcases h with (h | h) | h
        · exact .inl h
        · exact .inr ⟨e, by simp, hb, .inl h⟩
        · exact .inr ⟨e, by simp, hb, .inr h⟩
      · exact .inl h
    · exact .inr ⟨e', by simp [he'], hb, h⟩
theorem fold_push : ∀ (l : List Oper) (acc : Array Nat), let r := l.foldl (fun acc o => acc.push (bitsStep acc o)) acc
    (∀ k, k < acc.size → r[k]? = acc[k]?) ∧ r.size = acc.size + l.length ∧
    ∀ k o, l[k]? = some o → ∃ acc' : Array Nat, acc'.size = acc.size + k ∧ (∀ m, m < acc'.size → r[m]? = acc'[m]?) ∧ r[acc.size + k]? = some (bitsStep acc' o) := by
  intro l
  induction l with
  | nil => intro acc r; exact ⟨fun _ _ => rfl, rfl, fun k o h => by simp at h⟩
  | cons x l ih =>
    intro acc r
    obtain ⟨h1, h2, h3⟩ := ih (acc.push (bitsStep acc x))
    refine ⟨fun k hk => ?_, ?_, fun k o h => ?_⟩
    · have := h1 k (by simp; omega)
      have e : r[k]? = _ := this
      rw [e, Array.getElem?_push, if_neg (by omega)]
    · have e : r.size = _ := h2
      rw [e]; simp; omega
    · cases k with
      | zero =>
        simp at h
        subst h
        refine ⟨acc, rfl, fun m hm => ?_, ?_⟩
        · have := h1 m (by simp; omega)
          have e : r[m]? = _ := this
          rw [e, Array.getElem?_push, if_neg (by omega)]
        · have := h1 acc.size (by simp)
          have e : r[acc.size]? = _ := this
          rw [Nat.add_zero, e]; simp
      | succ k =>
        obtain ⟨acc', q1, q2, q3⟩ := h3 k o (by simpa using h)
        refine ⟨acc', by rw [q1]; simp; omega, q2, ?_⟩
        have e : (acc.push (bitsStep acc x)).size + k = acc.size + (k + 1) := by simp; omega
        rw [e] at q3
        exact q3
theorem waits_edge {ops : Array Oper} {j i : Nat} (h : waits ops j i = true) : ∃ o, ops[j]? = some o ∧ ∃ e ∈ o.after.toList, Region.binds .any e = true ∧ (e.on = i ∨ (e.on < j ∧ waits ops e.on i = true)) := by
  unfold waits at h
  have hb : Region.before ops = ops.toList.foldl (fun acc o => acc.push (bitsStep acc o)) #[] := by
    unfold Region.before
    rw [← Array.foldl_toList]
    rfl
  obtain ⟨_, h2, h3⟩ := fold_push ops.toList #[]
  rw [← hb] at h2 h3
  cases ho : ops[j]? with
  | none =>
    exfalso
    have hj : ops.size ≤ j := by
      rcases Nat.lt_or_ge j ops.size with h' | h'
      · rw [Array.getElem?_eq_getElem h'] at ho; cases ho
      · exact h'
    have : (Region.before ops).getD j 0 = 0 := by
      rw [Array.getD_eq_getD_getElem?, Array.getElem?_eq_none (by rw [h2]; simp; omega)]
      rfl
    rw [this] at h
    simp at h
  | some o =>
    obtain ⟨acc', q1, q2, q3⟩ := h3 j o (by simpa using ho)
    simp only [List.size_toArray, List.length_nil, Nat.zero_add] at q1 q3
    have e1 : (Region.before ops).getD j 0 = bitsStep acc' o := by rw [Array.getD_eq_getD_getElem?, q3]; rfl
    rw [e1] at h
    unfold bitsStep at h
    rw [← Array.foldl_toList] at h
    rcases fold_bits acc' i _ _ h with h | ⟨e, he, hbd, h⟩
    · simp at h
    · refine ⟨o, rfl, e, he, hbd, ?_⟩
      rcases h with h | h
      · exact .inl h
      · have hlt : e.on < acc'.size := by
          rcases Nat.lt_or_ge e.on acc'.size with h' | h'
          · exact h'
          · rw [Array.getD_eq_getD_getElem?, Array.getElem?_eq_none h'] at h
            simp at h
        refine .inr ⟨by omega, ?_⟩
        unfold waits
        rw [Array.getD_eq_getD_getElem?, q2 e.on hlt, ← Array.getD_eq_getD_getElem?]
        exact h
def Closed (ops : Array Oper) (D : Nat → Bool) : Prop := ∀ j o, D j = true → ops[j]? = some o → ∀ e ∈ o.after.toList, Region.binds .any e = true → D e.on = true
def Ready (ops : Array Oper) (D : Nat → Bool) (i : Nat) : Prop := D i = false ∧ ∃ o, ops[i]? = some o ∧ ∀ e ∈ o.after.toList, Region.binds .any e = true → D e.on = true
theorem Closed.waits {ops : Array Oper} {D : Nat → Bool} (h : Closed ops D) : ∀ (n j i : Nat), j ≤ n → D j = true → waits ops j i = true → D i = true := by
  intro n
  induction n with
  | zero =>
    intro j i hj hd hw
    obtain ⟨o, ho, e, he, hb, h1⟩ := waits_edge hw
    rcases h1 with rfl | ⟨h1, _⟩
    · exact h j o hd ho e he hb
    · omega
  | succ n ih =>
    intro j i hj hd hw
    obtain ⟨o, ho, e, he, hb, h1⟩ := waits_edge hw
    rcases h1 with rfl | ⟨h1, h2⟩
    · exact h j o hd ho e he hb
    · exact ih e.on i (by omega) (h j o hd ho e he hb) h2
theorem Ready.waits {ops : Array Oper} {D : Nat → Bool} {i x : Nat} (hc : Closed ops D) (h : Ready ops D i) (hw : waits ops i x = true) : D x = true := by
  obtain ⟨o, ho, e, he, hb, h1⟩ := waits_edge hw
  obtain ⟨_, o', ho', hr⟩ := h
  rw [ho] at ho'
  cases ho'
  have := hr e he hb
  rcases h1 with rfl | ⟨_, h2⟩
  · exact this
  · exact hc.waits e.on e.on x (Nat.le_refl _) this h2
def addD (D : Nat → Bool) (i : Nat) : Nat → Bool := fun j => j == i || D j
theorem Closed.add {ops : Array Oper} {D : Nat → Bool} {i : Nat} (hc : Closed ops D) (h : Ready ops D i) : Closed ops (addD D i) := by
  intro j o hj ho e he hb
  simp only [addD, Bool.or_eq_true, beq_iff_eq] at hj ⊢
  rcases hj with rfl | hj
  · obtain ⟨_, o', ho', hr⟩ := h
    rw [ho] at ho'
    cases ho'
    exact .inr (hr e he hb)
  · exact .inr (hc j o hj ho e he hb)
end Go.AM
set_option linter.unusedSimpArgs false
set_option linter.unusedVariables false
set_option linter.unusedSectionVars false
namespace Go.AM
open Go
variable [Keep]
section
variable {X : Ctx} {ops : Array Oper}
def allocAt (ops : Array Oper) (i : Nat) : Bool := match ops[i]? with | some o => isAlloc o | none => false
def restAt (ops : Array Oper) (i : Nat) : Bool := match ops[i]? with | some o => !isAlloc o | none => false
theorem canon_eq : canon ops = (List.range ops.size).filter (allocAt ops) ++ (List.range ops.size).filter (restAt ops) := rfl
theorem canon_mem {i : Nat} : i ∈ canon ops ↔ i < ops.size := by
  rw [canon_eq]
  simp only [List.mem_append, List.mem_filter, List.mem_range]
  constructor
  · rintro (h | h) <;> exact h.1
  · intro h
    unfold allocAt restAt
    rw [Array.getElem?_eq_getElem h]
    simp only
    cases isAlloc ops[i] <;> simp [h]
theorem canon_nodup : (canon ops).Nodup := by
  rw [canon_eq, List.nodup_append]
  refine ⟨List.nodup_range.filter _, List.nodup_range.filter _, fun x hx y hy e => ?_⟩
  subst e
  have h1 := (List.mem_filter.1 hx).2
  have h2 := (List.mem_filter.1 hy).2
  unfold allocAt at h1
  unfold restAt at h2
  cases ho : ops[x]? with
  | none => rw [ho] at h1; cases h1
  | some o => rw [ho] at h1 h2; simp only at h1 h2; rw [h1] at h2; cases h2
theorem canon_alloc {A B : List Nat} {i : Nat} (h : canon ops = A ++ i :: B) (hi : allocAt ops i = true) : ∀ z ∈ A, allocAt ops z = true := by
  rw [canon_eq] at h
  intro z hz
  generalize e1 : (List.range ops.size).filter (allocAt ops) = p at h
  generalize e2 : (List.range ops.size).filter (restAt ops) = q at h
  rcases List.append_eq_append_iff.1 h with ⟨c, h1, h2⟩ | ⟨c, h1, h2⟩
  ·
    exfalso
    have : i ∈ q := by rw [h2]; simp
    rw [← e2] at this
    have h3 := (List.mem_filter.1 this).2
    unfold restAt at h3
    unfold allocAt at hi
    cases ho : ops[i]? with
    | none => rw [ho] at hi; cases hi
    | some o => rw [ho] at hi h3; simp only at hi h3; rw [hi] at h3; cases h3
  · have : z ∈ p := by rw [h1]; simp [hz]
    rw [← e1] at this
    exact (List.mem_filter.1 this).2
theorem loose_mem (w : Nat → Nat → Bool) : ∀ (A : List Nat) (i : Nat) (B : List Nat) (j : Nat), j ∈ B → w j i = false → (i, j) ∈ loosePairs w (A ++ i :: B) := by
  intro A
  induction A with
  | nil =>
    intro i B j hj hw
    simp only [List.nil_append, loosePairs]
    refine List.mem_append_left _ (List.mem_map.2 ⟨j, List.mem_filter.2 ⟨hj, by simp [hw]⟩, rfl⟩)
  | cons a A ih =>
    intro i B j hj hw
    simp only [List.cons_append, loosePairs]
    exact List.mem_append_right _ (ih i B j hj hw)
theorem split_two {l : List Nat} {x y : Nat} (hx : x ∈ l) (hy : y ∈ l) (hne : x ≠ y) : (∃ A B, l = A ++ x :: B ∧ y ∈ B) ∨ (∃ A B, l = A ++ y :: B ∧ x ∈ B) := by
  obtain ⟨A, B, e⟩ := List.append_of_mem hx
  rw [e] at hy
  rcases List.mem_append.1 hy with h | h
  · obtain ⟨C, D, e'⟩ := List.append_of_mem h
    refine .inr ⟨C, D ++ x :: B, by rw [e, e']; simp, by simp⟩
  · rcases List.mem_cons.1 h with h | h
    · exact absurd h.symm hne
    · exact .inl ⟨A, B, e, h⟩
theorem drawOk_pair {f : FuncId} (h : drawOk X f ops = true) {A B : List Nat} {i j : Nat} (e : canon ops = A ++ i :: B) (hj : j ∈ B) (hw : waits ops j i = false) :
    ∃ x y, ops[i]? = some x ∧ ops[j]? = some y ∧ apartT ops x y = true ∧ (isEffD X f x = true → isEffD X f y = true → False) := by
  unfold drawOk at h
  simp only [Bool.and_eq_true] at h
  have := List.all_eq_true.1 h.2 (i, j) (by rw [e]; exact loose_mem _ A i B j hj hw)
  unfold pairOk at this
  simp only at this
  split at this
  · rename_i x y hx hy
    simp only [Bool.and_eq_true, Bool.not_eq_true'] at this
    exact ⟨x, y, hx, hy, this.1, fun h1 h2 => by rw [h1, h2] at this; simp at this⟩
  · cases this
theorem drawOk_shape {f : FuncId} (h : drawOk X f ops = true) {i : Nat} {o : Oper} (ho : ops[i]? = some o) :
    (∀ e ∈ o.after.toList, Region.binds .any e = true → e.on < i) ∧ (isAlloc o = true → o.guard = none ∧ o.after = #[] ∧ ∃ d, o.dst = some d ∧ (X.hts f).contains d = false) ∧ (isAlloc o = false → boxy o.op = false) ∧ (∀ c, o.op ≠ .defer c) := by
  unfold drawOk at h
  simp only [Bool.and_eq_true] at h
  have hi : i < ops.size := by
    rcases Nat.lt_or_ge i ops.size with h' | h'
    · exact h'
    · rw [Array.getElem?_eq_none h'] at ho; cases ho
  have hs := h.1
  unfold shapeOk at hs
  have := List.all_eq_true.1 hs i (List.mem_range.2 hi)
  simp only [ho, Bool.and_eq_true] at this
  obtain ⟨h1, h2⟩ := this
  refine ⟨fun e he hb => ?_, fun ha => ?_, fun ha => ?_, fun c e => ?_⟩
  · rw [← Array.all_toList] at h1
    have := List.all_eq_true.1 h1 e he
    simp only [hb, Bool.not_true, Bool.or_false, decide_eq_true_eq] at this
    exact this
  · unfold isAlloc at ha
    split at ha
    · rename_i t e
      rw [e] at h2
      simp only [Bool.and_eq_true] at h2
      obtain ⟨⟨g1, g2⟩, g3⟩ := h2
      refine ⟨by simpa using g1, by simpa using g2, ?_⟩
      cases hd : o.dst with
      | none => rw [hd] at g3; cases g3
      | some d => rw [hd] at g3; exact ⟨d, rfl, by simpa using g3⟩
    · cases ha
  · unfold isAlloc at ha
    unfold boxy
    split at ha
    · cases ha
    · rename_i hne
      split
      · rename_i t e; exact absurd e (hne t)
      · rename_i t x e; rw [e] at h2; cases h2
      · rfl
  · rw [e] at h2; cases h2
theorem apart_spec {x y : Oper} (h : apartT ops x y = true) : (∀ d, x.dst = some d → d ∉ looksAt ops y) ∧ (∀ d, x.dst = some d → y.dst ≠ some d) ∧ (∀ d, y.dst = some d → d ∉ looksAt ops x) := by
  unfold apartT at h
  simp only [Bool.and_eq_true] at h
  refine ⟨fun d hd => ?_, fun d hd => ?_, fun d hd => ?_⟩
  · have := h.1; rw [hd] at this; simp at this; exact this.1
  · have := h.1; rw [hd] at this; simp at this; exact this.2
  · have := h.2; rw [hd] at this; simp at this; exact this
theorem alloc_one {f : FuncId} (h : drawOk X f ops = true) {i j : Nat} {x y : Oper} (hx : ops[i]? = some x) (hy : ops[j]? = some y) (ax : isAlloc x = true) (ay : isAlloc y = true) {s : Tmp} (sx : x.dst = some s) (sy : y.dst = some s) : i = j := by
  have hi : i ∈ canon ops := canon_mem.2 (by
    rcases Nat.lt_or_ge i ops.size with h' | h'
    · exact h'
    · rw [Array.getElem?_eq_none h'] at hx; cases hx)
  have hj : j ∈ canon ops := canon_mem.2 (by
    rcases Nat.lt_or_ge j ops.size with h' | h'
    · exact h'
    · rw [Array.getElem?_eq_none h'] at hy; cases hy)
  have hw : ∀ {a b : Nat} {z : Oper}, ops[a]? = some z → isAlloc z = true → waits ops a b = false := fun {a b z} hz az => by
    cases hw : waits ops a b with
    | false => rfl
    | true =>
      obtain ⟨o, ho, e, he, _⟩ := waits_edge hw
      rw [hz] at ho
      cases ho
      obtain ⟨_, h2, _⟩ := (drawOk_shape h hz).2.1 az
      rw [h2] at he
      simp at he
  rcases Nat.decEq i j with hne | e
  · exfalso
    rcases split_two hi hj hne with ⟨A, B, e, hm⟩ | ⟨A, B, e, hm⟩
    · obtain ⟨x', y', hx', hy', ha, _⟩ := drawOk_pair h e hm (hw hy ay)
      rw [hx] at hx'; rw [hy] at hy'; cases hx'; cases hy'
      exact (apart_spec ha).2.1 s sx sy
    · obtain ⟨x', y', hx', hy', ha, _⟩ := drawOk_pair h e hm (hw hx ax)
      rw [hy] at hx'; rw [hx] at hy'; cases hx'; cases hy'
      exact (apart_spec ha).2.1 s sy sx
  · exact e
theorem filter_split {D p : Nat → Bool} {A B : List Nat} {i : Nat} (hi : D i = false) (hA : ∀ z ∈ A, p z = true → D z = true) (hB : ∀ z ∈ B, p z = true → D z = false) : ((A ++ i :: B).filter D).filter p = A.filter p := by
  rw [List.filter_append, List.filter_cons, hi]
  simp only [Bool.false_eq_true, if_false, List.filter_append]
  have h1 : (A.filter D).filter p = A.filter p := by
    rw [List.filter_filter]
    apply List.filter_congr
    intro z hz
    cases hp : p z with
    | false => simp
    | true => simp [hA z hz hp]
  have h2 : (B.filter D).filter p = [] := by
    rw [List.filter_filter, List.filter_eq_nil_iff]
    intro z hz
    cases hp : p z with
    | false => simp
    | true => simp [hB z hz hp]
  rw [h1, h2, List.append_nil]
theorem filter_add {D : Nat → Bool} {A B : List Nat} {i : Nat} (hn : (A ++ i :: B).Nodup) (hi : D i = false) : (A ++ i :: B).filter (addD D i) = A.filter D ++ i :: B.filter D := by
  rw [List.filter_append, List.filter_cons]
  have hii : addD D i i = true := by simp [addD]
  rw [hii, if_pos rfl]
  have hne : ∀ z, z ∈ A ∨ z ∈ B → z ≠ i := by
    rw [List.nodup_append] at hn
    obtain ⟨_, h2, h3⟩ := hn
    rintro z (hz | hz) rfl
    · exact h3 z hz z (by simp) rfl
    · exact (List.nodup_cons.1 h2).1 hz
  have hc : ∀ l : List Nat, (∀ z ∈ l, z ≠ i) → l.filter (addD D i) = l.filter D := fun l hl => by
    apply List.filter_congr
    intro z hz
    simp [addD, hl z hz]
  rw [hc A fun z hz => hne z (.inl hz), hc B fun z hz => hne z (.inr hz)]
theorem filter_plain {D : Nat → Bool} {A B : List Nat} {i : Nat} (hi : D i = false) : (A ++ i :: B).filter D = A.filter D ++ B.filter D := by
  rw [List.filter_append, List.filter_cons, hi]; rfl
theorem first_with (p : Nat → Bool) : ∀ (l : List Nat), (∃ x ∈ l, p x = true) → ∃ A x B, l = A ++ x :: B ∧ p x = true ∧ ∀ z ∈ A, p z = false := by
  intro l
  induction l with
  | nil => rintro ⟨x, hx, _⟩; simp at hx
  | cons a l ih =>
    intro h
    cases ha : p a with
    | true => exact ⟨[], a, l, rfl, ha, by simp⟩
    | false =>
      obtain ⟨x, hx, hp⟩ := h
      have hx : x ∈ l := by
        rcases List.mem_cons.1 hx with rfl | hx
        · rw [ha] at hp; cases hp
        · exact hx
      obtain ⟨A, y, B, e, h1, h2⟩ := ih ⟨x, hx, hp⟩
      refine ⟨a :: A, y, B, by rw [e]; rfl, h1, fun z hz => ?_⟩
      rcases List.mem_cons.1 hz with rfl | hz
      · exact ha
      · exact h2 z hz
theorem last_with (p : Nat → Bool) : ∀ (l : List Nat), (∃ x ∈ l, p x = true) → ∃ A x B, l = A ++ x :: B ∧ p x = true ∧ ∀ z ∈ B, p z = false := by
  intro l
  induction l with
  | nil => rintro ⟨x, hx, _⟩; simp at hx
  | cons a l ih =>
    intro h
    by_cases hl : ∃ x ∈ l, p x = true
    · obtain ⟨A, y, B, e, h1, h2⟩ := ih hl
      exact ⟨a :: A, y, B, by rw [e]; rfl, h1, h2⟩
    · obtain ⟨x, hx, hp⟩ := h
      rcases List.mem_cons.1 hx with rfl | hx
      · refine ⟨[], x, l, rfl, hp, fun z hz => ?_⟩
        cases h : p z with
        | false => rfl
        | true => exact absurd ⟨z, hz, h⟩ hl
      · exact absurd ⟨x, hx, hp⟩ hl
end
end Go.AM
