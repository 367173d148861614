/-
  A part of the proof: contracts of functions.
-/
import Derived.Test.YtlhcjccaimmhgaaGreatDoorVAB
import Derived.Laws.Append
import Derived.Laws.AppendOwn
set_option linter.unusedSimpArgs false
set_option linter.unusedVariables false
set_option linter.unusedSectionVars false
namespace Go.AM
open Go
variable [Keep]
section
variable {P : Program} {w : World} {C : Cfg} {lam : Nat -> Option Nat} {ms : List Nat} {F : Fr} {b : Frame} {a : Act} {cs : List Frame}
theorem run_places {w : World} : ∀ (l : List Field), (∀ f ∈ l, (P.info? f.type).isSome = true) -> (l.mapM fun f => (do pure (f.offset, <- sizeOf f.type) : Sem (Nat × Nat))).run P w = .ok (l.map fun f => (f.offset, szT P f.type)) w := by
 intro l
 induction l with
 | nil => intro h; rfl
 | cons f l ih =>
  intro h
  have h1 := h f (by simp)
  obtain ⟨i, hi⟩ := Option.isSome_iff_exists.1 h1
  have hs : (sizeOf f.type).run P w = .ok (szT P f.type) w := by simp [sizeOf, run_info hi, szT, hi]
  have := ih (fun g hg => h g (by simp [hg]))
  simp only [bind_pure_comp] at this
  simp [List.mapM_cons, hs, this]
theorem run_placesA {w : World} (fs : Array Field) (h : ∀ f ∈ fs.toList, (P.info? f.type).isSome = true) : (fs.mapM fun f => (do pure (f.offset, <- sizeOf f.type) : Sem (Nat × Nat))).run P w = .ok (fs.map fun f => (f.offset, szT P f.type)) w := by
 rw [Array.mapM_eq_mapM_toList]
 simp only [Sem.run_map, run_places fs.toList h, Result.andThen_ok]
 congr 1
 apply Array.toList_inj.1
 simp
theorem St.buildV (s : St C lam ms F b a w cs) {t : TypeId} {ps : Array (Nat × Operand)} {v : AV} (h : F.buildV P t ps.toList = some v) : Runs P w C lam F (Instr.build t (ps.map fun (i, x) => (i, a.eval x))) v := by
 unfold Fr.buildV at h
 split at h
 ·cases h
 ·rename_i hk
  split at h
  ·rename_i z l hz hl
   split at h
   ·rename_i cells hf
    cases h
    obtain ⟨zv, z1, z2, _⟩ := run_zero (P := P) (w := w) (C := C) hz
    obtain ⟨vs, rfl, rz, oz⟩ := z2.agg_inv
    have hp := s.parts ps.toList l hl
    have hpe : (ps.map fun (i, x) => (i, a.eval x)).toList = ps.toList.map fun p => (p.1, a.eval p.2) := by simp
    obtain ⟨c', e1, e2, e3⟩ := fillV_ok l _ z vs cells hp rz oz hf
    refine .of (u := .agg c') ?_ (.agg e2.1 e2.2 e3)
    unfold partsKnown at hk
    simp only [Instr.build, Sem.run_bind, z1, Result.andThen_ok, Value.cells]
    split at hk
    ·rename_i fs hu
     simp only [run_und hu, Result.andThen_ok]
     have hk' : (fs.toList.all fun fd => (P.info? fd.type).isSome) = true := by simpa only [Bool.not_eq_true', Bool.not_eq_false] using hk
     have hall : ∀ f ∈ fs.toList, (P.info? f.type).isSome = true := List.all_eq_true.1 hk'
     have hm := run_placesA (w := w) fs hall
     simp only [Sem.run_bind, hm, Result.andThen_ok, hpe]
     have hpl : (fun i => (fs.map fun f => (f.offset, szT P f.type))[i]?) = placeOf P t := by
      funext i
      simp only [placeOf, hu, Array.getElem?_map]
      cases fs[i]? <;> rfl
     rw [hpl, e1]
     rfl
    ·rename_i n e hu
     simp only [run_und hu, Result.andThen_ok]
     have hi : (P.info? e).isSome = true := by simpa only [Bool.not_eq_true', Bool.not_eq_false] using hk
     obtain ⟨i, hi⟩ := Option.isSome_iff_exists.1 hi
     have hs : (sizeOf e).run P w = .ok (szT P e) w := by simp [sizeOf, run_info hi, szT, hi]
     simp only [Sem.run_bind, hs, Result.andThen_ok, hpe]
     have hpl : (fun i => some (i * szT P e, szT P e)) = placeOf P t := by funext i; simp [placeOf, hu]
     rw [hpl, e1]
     rfl
    ·simp at hk
   ·cases h
  ·cases h
def FlatR (C : Cfg) (m : Nat) (elems : List AV) (c : Array Value) (o : Nat) : Prop :=
 ∀ (i : Nat) (e : AV), elems[i]? = some e -> e.cells.length = m /\ (∀ x ∈ e.cells, x.one = true) /\ ∀ (j : Nat) (x : AV), e.cells[j]? = some x -> ∃ v, c[o + i * m + j]? = some v /\ VR C x v
theorem mul_lt_of {i n m j : Nat} (hi : i < n) (hj : j < m) : i * m + j < n * m := by
 have : (i + 1) * m <= n * m := Nat.mul_le_mul_right _ hi
 rw [Nat.add_mul] at this
 omega
theorem FlatR.zeros {z : AV} {zv : Value} {n m : Nat} (r : VR C z zv) (ht : isTuple z = false) (hm : z.cells.length = m) (h0 : m ≠ 0) : FlatR C m (List.replicate n z) ((Array.range (n * m)).map (zv.cells[· % zv.cells.size]!)) 0 := by
 obtain ⟨k1, k2⟩ := r.cells (not_tuple ht)
 intro i e he
 have hi : i < n := by
  rcases Nat.lt_or_ge i n with h' | h'
  ·exact h'
  ·rw [List.getElem?_eq_none (by simpa using h')] at he; cases he
 have : e = z := by rw [List.getElem?_replicate] at he; simp [hi] at he; exact he.symm
 subst this
 refine ⟨hm, k2, fun j x hx => ?_⟩
 have hj : j < m := by
  rw [<- hm]
  rcases Nat.lt_or_ge j e.cells.length with h' | h'
  ·exact h'
  ·rw [List.getElem?_eq_none h'] at hx; cases hx
 obtain ⟨v, hv, hr⟩ := k1.get hx
 have hlt := mul_lt_of hi hj
 refine ⟨v, ?_, hr⟩
 have hsz : zv.cells.size = m := by rw [k1.1]; exact hm
 have hmod : (i * m + j) % m = j := by rw [Nat.mul_comm, Nat.mul_add_mod, Nat.mod_eq_of_lt hj]
 have hget : zv.cells[j]! = v := by rw [getElem!_def, hv]
 simp only [Nat.zero_add]
 rw [Array.getElem?_map, Array.getElem?_range]
 simp [hlt, hsz, hmod, hget]
theorem FlatR.set {elems : List AV} {c : Array Value} {o m i : Nat} {v : AV} {u : Value} (h : FlatR C m elems c o) (r : VR C v u) (ht : isTuple v = false) (hm : v.cells.length = m) (hi : i < elems.length) (hc : o + elems.length * m <= c.size) :
  FlatR C m (elems.set i v) (setMany c (o + i * m) u.cells.toList) o := by
 obtain ⟨k1, k2⟩ := r.cells (not_tuple ht)
 have hul : u.cells.toList.length = m := by rw [<- hm]; simpa using k1.1
 have hle : (i + 1) * m <= elems.length * m := Nat.mul_le_mul_right _ hi
 rw [Nat.add_mul, Nat.one_mul] at hle
 intro i' e he
 rw [List.getElem?_set] at he
 by_cases hii : i = i'
 ·subst hii
  simp [hi] at he
  subst he
  refine ⟨hm, k2, fun j x hx => ?_⟩
  obtain ⟨w, hw, hr⟩ := k1.get hx
  have hj : j < m := by
   rw [<- hm]
   rcases Nat.lt_or_ge j v.cells.length with h' | h'
   ·exact h'
   ·rw [List.getElem?_eq_none h'] at hx; cases hx
  refine ⟨w, ?_, hr⟩
  rw [setMany_get _ _ _ _ (by rw [hul]; omega), hul, if_pos (by omega), show o + i * m + j - (o + i * m) = j from by omega]
  simpa using hw
 ·rw [if_neg hii] at he
  obtain ⟨g1, g2, g3⟩ := h i' e he
  refine ⟨g1, g2, fun j x hx => ?_⟩
  obtain ⟨w, hw, hr⟩ := g3 j x hx
  have hj : j < m := by
   rw [<- g1]
   rcases Nat.lt_or_ge j e.cells.length with h' | h'
   ·exact h'
   ·rw [List.getElem?_eq_none h'] at hx; cases hx
  refine ⟨w, ?_, hr⟩
  rw [setMany_get _ _ _ _ (by rw [hul]; omega), hul, if_neg ?_]
  ·exact hw
  ·rcases Nat.lt_or_gt_of_ne hii with hlt | hgt
   ·have : (i + 1) * m <= i' * m := Nat.mul_le_mul_right _ hlt
    rw [Nat.add_mul, Nat.one_mul] at this
    omega
   ·have : (i' + 1) * m <= i * m := Nat.mul_le_mul_right _ hgt
    rw [Nat.add_mul, Nat.one_mul] at this
    omega
theorem fillE_ok {m : Nat} : ∀ (l : List (Nat × AV)) (ps : List (Nat × Value)) (elems : List AV) (c : Array Value) (r : List AV), PartR C l ps -> FlatR C m elems c 0 -> elems.length * m <= c.size -> fillE elems m l = some r ->
  ∃ c', Instr.fill (fun i => some (i * m, m)) c ps = some c' /\ FlatR C m r c' 0 /\ c'.size = c.size /\ r.length = elems.length := by
 intro l
 induction l with
 | nil =>
  intro ps elems c r hp hf hc h
  simp [fillE] at h
  subst h
  have : ps = [] := List.eq_nil_of_length_eq_zero (by simpa using hp.1)
  subst this
  exact ⟨c, rfl, hf, rfl, rfl⟩
 | cons p l ih =>
  intro ps elems c r hp hf hc h
  obtain ⟨i, v⟩ := p
  obtain ⟨u, ps', rfl, hu, hp'⟩ := hp.cons
  simp only [fillE] at h
  split at h
  ·rename_i hh
   obtain ⟨h1, h2, h3⟩ := hh
   have hset := hf.set hu h3 h1 h2 (by simpa using hc)
   rw [Nat.zero_add] at hset
   obtain ⟨c', e1, e2, e3, e4⟩ := ih ps' _ _ r hp' hset (by rw [setMany_size]; simpa using hc) h
   refine ⟨c', ?_, e2, by rw [e3, setMany_size], by simpa using e4⟩
   obtain ⟨k1, _⟩ := hu.cells (not_tuple h3)
   have hsz : u.cells.size = m := by rw [k1.1]; exact h1
   have hle : (i + 1) * m <= elems.length * m := Nat.mul_le_mul_right _ h2
   rw [Nat.add_mul, Nat.one_mul] at hle
   simp only [Instr.fill, hsz]
   rw [if_neg (by simp; omega), zipA_setMany]
   exact e1
  ·cases h
theorem heap_push {w w' : World} {o : Obj} (hh : w'.heap = w.heap.push o) {β : Nat} (h : β < w.heap.size) : w'.heap[β]? = w.heap[β]? := by
 rw [hh, Array.getElem?_push, if_neg (by omega)]
theorem WR.sig_lt (r : WR C F.hp w) {x : Addr} {v : Value} (h : C.sig x = some v) : x.block < w.heap.size := by
 have := r.sig x v h
 unfold World.cell? at this
 rcases Nat.lt_or_ge x.block w.heap.size with h' | h'
 ·exact h'
 ·rw [Array.getElem?_eq_none h'] at this; simp at this
theorem St.push (s : St C lam ms F b a w cs) {w' : World} {o : Obj} {C' : Cfg} (hh : w'.heap = w.heap.push o) (hos : w'.os = w.os) (htp : w'.tape = w.tape) (hout : w'.output = w.output)
    (hle : C.le C') (hmu : ∀ id L, C'.mu id = some L -> C.mu id = some L) (hsig : ∀ x v, C'.sig x = some v -> C.sig x = some v \/ (x.block = w.heap.size /\ w'.cell? x = some v)) :
    St C' lam ms F b a w' cs /\ Ext C F.hp (Own lam ms) w C' F.hp (Own lam ms) w' := by
  have hlive : ∀ β, Live C' F.hp β -> Live C F.hp β := fun β ⟨id, blk, L, h1, h2, h3⟩ => ⟨id, blk, L, h1, hmu _ _ h2, h3⟩
  constructor
  · refine { wr := ⟨fun x v h => ?_, fun id blk h => ?_, fun id id' blk blk' L L' h1 h2 h3 h4 => s.wr.inj id id' blk blk' L L' h1 h2 (hmu _ _ h3) (hmu _ _ h4), fun id blk L x v h1 h2 h3 => ?_, fun id L h => s.wr.fresh id L (hmu _ _ h), s.wr.base.on hle.sig (fun x v e => heap_push hh (s.wr.sig_lt e))⟩,
             env := fun t => (s.env t).mono hle, box := fun t β ht => ?_, inj := s.inj, mark := fun m hm => ?_, nodup := s.nodup, live := fun β ho l => s.live β ho (hlive β l), osig := fun β x v ho h => ?_,
             df := s.df.mono hle, up := s.up.mono hle, fn := s.fn, rnd := s.rnd }
    · rcases hsig x v h with h | ⟨_, h⟩
      · have hb := s.wr.sig_lt h
        have := s.wr.sig x v h
        unfold World.cell? at this ⊢
        rw [heap_push hh hb]
        exact this
      · exact h
    · obtain ⟨L, h1, h2⟩ := s.wr.blk id blk h
      exact ⟨L, hle.mu _ _ h1, h2.same hle (heap_push hh h2.lt)⟩
    · rcases hsig x v h3 with h | ⟨h, _⟩
      · exact s.wr.apart id blk L x v h1 (hmu _ _ h2) h
      · obtain ⟨L', g1, g2⟩ := s.wr.blk id blk h1
        rw [hmu _ _ h2] at g1
        cases g1
        have := g2.lt
        omega
    · obtain ⟨g, cells, c, h1, h2, h3, h4⟩ := s.box t β ht
      exact ⟨g, cells, c, h1, h2.same (heap_push hh h2.lt), h3.mono hle, h4⟩
    · exact (heap_push hh (s.own_lt (.inr hm))).trans (s.mark m hm)
    · rcases hsig x v h with h | ⟨h, _⟩
      · exact s.osig β x v ho h
      · have := s.own_lt ho
        omega
  · exact { le := hle, os := hos, tape := htp, output := hout, size := by rw [hh]; simp, same := fun β h _ _ => heap_push hh h, live := fun β _ l => .inl (hlive β l), own := fun β _ o => .inr o,
            sig := fun x v hb h => by
              rcases hsig x v h with h | ⟨h, _⟩
              · exact .inl h
              · omega, next := Nat.le_refl _ }
def sigPush (C : Cfg) (n : Nat) (c : Array Value) : Cfg := { C with sig := fun x => if x.block = n /\ x.spot = none then c[x.off]? else C.sig x }
theorem sigPush_le (r : WR C F.hp w) (c : Array Value) : C.le (sigPush C w.heap.size c) :=
 ⟨fun _ _ h => h, fun x v h => by
  have := r.sig_lt h
  simp only [sigPush]
  rw [if_neg (by omega)]
  exact h⟩
theorem slice_of_flat {m o B : Nat} {elems : List AV} {c : Array Value} {cap : Nat} (h : FlatR C m elems c o) (hs : ∀ k, k < c.size -> C.sig ⟨B, k, none⟩ = c[k]?) (hcap : elems.length <= cap) (hc : o + elems.length * m <= c.size) :
  VR C (.vslice elems) (.slice (some ⟨B, o, none⟩) elems.length cap) := by
 have hget : ∀ i j, i < elems.length -> j < m -> ∃ v, c[o + i * m + j]? = some v /\ VR C ((elems.getD i .junk).cells.getD j .junk) v := by
  intro i j hi hj
  obtain ⟨g1, g2, g3⟩ := h i elems[i] (by simp [hi])
  obtain ⟨v, hv, hr⟩ := g3 j ((elems[i]).cells[j]'(by omega)) (by simp)
  refine ⟨v, hv, ?_⟩
  have e : elems.getD i .junk = elems[i] := by simp [List.getD, hi]
  rw [e]
  have e2 : (elems[i]).cells.getD j .junk = (elems[i]).cells[j]'(by omega) := by
   have : j < (elems[i]).cells.length := by omega
   simp [List.getD, this]
  rw [e2]
  exact hr
 refine .vslice (sz := m) (fun i j => c.getD (o + i * m + j) undef) hcap (fun e he => ?_) (fun i j hi hj => ?_) (fun i j hi hj => ?_) (fun e he => ?_)
 ·obtain ⟨i, hi⟩ := List.mem_iff_getElem?.1 he
  exact (h i e hi).1
 ·obtain ⟨v, hv, _⟩ := hget i j hi hj
  have hlt := mul_lt_of hi hj
  rw [hs _ (by omega), hv]
  simp [Array.getD_eq_getD_getElem?, hv]
 ·obtain ⟨v, hv, hr⟩ := hget i j hi hj
  have : c.getD (o + i * m + j) undef = v := by simp [Array.getD_eq_getD_getElem?, hv]
  rw [this]
  exact hr
 ·obtain ⟨i, hi⟩ := List.mem_iff_getElem?.1 he
  exact (h i e hi).2.1
theorem elemT_und {t e : TypeId} (h : elemT P t = some e) : P.underlying t = some (.slice e) := by
 unfold elemT at h
 split at h
 ·rename_i x hu; cases h; exact hu
 ·cases h
theorem buildSlice_ok (s : St C lam ms F b a w cs) {t : TypeId} {n : Nat} {ps : Array (Nat × Operand)} {v : AV} (h : F.buildSliceV P t n ps.toList = some v) :
  ∃ (c : Array Value) (e : TypeId), elemT P t = some e /\ (Instr.buildSlice t n (ps.map fun (i, x) => (i, a.eval x))).run P w = .ok (.slice (some ⟨w.heap.size, 0, none⟩) n n) { w with heap := w.heap.push (.cells c e) } /\
   ((v = .vempty /\ n = 0) \/ ∃ elems, v = .vslice elems /\ elems.length = n /\ FlatR C (szT P e) elems c 0 /\ c.size = n * szT P e) := by
 unfold Fr.buildSliceV at h
 split at h
 ·rename_i e he
  split at h
  ·rename_i z l hz hl
   obtain ⟨zv, z1, z2, i, hi, _⟩ := run_zero (P := P) (w := w) (C := C) hz
   have hs : (sizeOf e).run P w = .ok (szT P e) w := by simp [sizeOf, run_info hi, szT, hi]
   have hpe : (ps.map fun (i, x) => (i, a.eval x)).toList = ps.toList.map fun p => (p.1, a.eval p.2) := by simp
   unfold sliceOf at h
   split at h
   ·rename_i hn
    split at h
    ·cases h
     subst hn
     have hp := s.parts ps.toList [] hl
     have hnil : ps.toList.map (fun p => (p.1, a.eval p.2)) = [] := List.eq_nil_of_length_eq_zero (by simpa using hp.1)
     refine ⟨#[], e, he, ?_, .inl ⟨rfl, rfl⟩⟩
     simp only [Instr.buildSlice, Sem.run_bind, run_und (elemT_und he), Result.andThen_ok, hs]
     rw [if_neg (by simp)]
     simp only [Nat.zero_mul, if_true, Sem.run_bind, Sem.run_pure, Result.andThen_ok, hpe, hnil]
     simp [newRow, Instr.fill, show Array.range 0 = #[] from rfl]
    ·cases h
   ·rename_i hn
    split at h
    ·rename_i hc
     obtain ⟨h1, h2, h3, h4⟩ := hc
     split at h
     ·rename_i elems hf
      cases h
      obtain ⟨c', e1, e2, e3, e4⟩ := fillE_ok l _ (List.replicate n z) _ elems (s.parts ps.toList l hl) (FlatR.zeros (n := n) z2 h3 h1 h4) (by simp) hf
      refine ⟨c', e, he, ?_, .inr ⟨elems, rfl, by simpa using e4, e2, by rw [e3]; simp⟩⟩
      have hne : n * szT P e ≠ 0 := Nat.mul_ne_zero hn h4
      simp only [Instr.buildSlice, Sem.run_bind, run_und (elemT_und he), Result.andThen_ok, hs, z1]
      rw [if_neg (by omega)]
      simp only [Sem.run_bind, Sem.run_pure, Result.andThen_ok, hne, if_false, z1, hpe, e1]
      simp [newRow]
     ·cases h
    ·cases h
  ·cases h
 ·cases h
end
end Go.AM
namespace Go.AM
open Go
variable [Keep]
section
variable {P : Program} {w : World} {C : Cfg} {lam : Nat -> Option Nat} {ms : List Nat} {F : Fr} {b : Frame} {a : Act} {cs : List Frame}
theorem rd_sound {X : Ctx} (s : St C lam ms F b a w cs) {o : Oper} {v : AV} (hna : isAlloc o = false) (h : rdV X F o.dst o.op = some v) :
  ∃ u w' C', (execOp a.eval o).run X.P w = .ok (.value u) w' /\ SR C' lam F.lm v u /\ St C' lam ms F b a w' cs /\ Ext C F.hp (Own lam ms) w C' F.hp (Own lam ms) w' := by
 have plain : ∀ {e : Sem Value}, Runs X.P w C lam F e v -> execOp a.eval o = (do pure (Next.value (<- e))) -> ∃ u w' C', (execOp a.eval o).run X.P w = .ok (.value u) w' /\ SR C' lam F.lm v u /\ St C' lam ms F b a w' cs /\ Ext C F.hp (Own lam ms) w C' F.hp (Own lam ms) w' := by
  intro e hr he
  obtain ⟨u, h1, h2⟩ := hr
  exact ⟨u, w, C, by rw [he]; simp [h1], h2, s, .refl _ _ _ _⟩
 obtain ⟨dst, op, ty, pos, after, guard⟩ := o
 simp only at h
 cases op <;> simp only [rdV] at h
 case move x => exact ⟨_, w, C, rfl, s.opd h, s, .refl _ _ _ _⟩
 case assign x => exact ⟨_, w, C, rfl, s.opd h, s, .refl _ _ _ _⟩
 case pick c x y =>
  obtain ⟨u, h1, h2⟩ := s.pickV (P := X.P) h
  refine ⟨u, w, C, ?_, h2, s, .refl _ _ _ _⟩
  simp only [execOp, Sem.run_bind] at h1 ⊢
  cases hc : (asBool (a.eval c)).run X.P w with
  | ok t w1 => simp [hc] at h1 ⊢; exact h1
  | halt x w1 => simp [hc] at h1
 case alloc => simp [isAlloc] at hna
 case build t ps => exact plain (s.buildV h) rfl
 case buildSlice t n ps =>
  obtain ⟨c, e, he, hrun, hv⟩ := buildSlice_ok (P := X.P) s h
  have hx : (execOp a.eval { dst := dst, op := .buildSlice t n ps, type := ty, pos := pos, after := after, guard := guard }).run X.P w = .ok (.value (.slice (some ⟨w.heap.size, 0, none⟩) n n)) { w with heap := w.heap.push (.cells c e) } := by
   simp only [execOp]
   simp only [Sem.run_bind, hrun, Result.andThen_ok, Sem.run_pure]
  have hle := sigPush_le s.wr c
  have hcell : ∀ k, World.cell? { w with heap := w.heap.push (.cells c e) } ⟨w.heap.size, k, none⟩ = c[k]? := by
   intro k; simp [World.cell?]
  obtain ⟨s', x'⟩ := s.push (w' := { w with heap := w.heap.push (.cells c e) }) rfl rfl rfl rfl hle (fun _ _ h => h) (fun x v' hs => by
   simp only [sigPush] at hs
   split at hs
   ·rename_i hx
    refine .inr ⟨hx.1, ?_⟩
    obtain ⟨xb, xo, xs⟩ := x
    simp only at hx hs ⊢
    obtain ⟨rfl, rfl⟩ := hx
    rw [hcell]
    exact hs
   ·exact .inl hs)
  refine ⟨_, _, _, hx, SR.of ?_, s', x'⟩
  rcases hv with ⟨rfl, rfl⟩ | ⟨elems, rfl, hl, hf, hsz⟩
  ·exact .vempty _
  ·have hf' : FlatR (sigPush C w.heap.size c) (szT X.P e) elems c 0 := fun i e he => by
    obtain ⟨g1, g2, g3⟩ := hf i e he
    exact ⟨g1, g2, fun j x hx => let ⟨v, hv, hr⟩ := g3 j x hx; ⟨v, hv, hr.mono hle⟩⟩
   have := slice_of_flat (C := sigPush C w.heap.size c) (B := w.heap.size) (cap := elems.length) hf' (fun k hk => by simp [sigPush]) (Nat.le_refl _) (by rw [hl, hsz]; omega)
   rwa [hl] at this
 case load t x => exact plain (s.loadV h) rfl
 case nilCheck x =>
  unfold Fr.nilCheckV at h
  have fin : ∀ u, a.eval x = u -> SR C lam F.lm v u -> u ≠ .pointer none -> u ≠ .nilIface -> u ≠ .nilFunc -> (∀ n p q, u ≠ .func (.method n) p q) ->
    ∃ u w' C', (execOp a.eval { dst := dst, op := .nilCheck x, type := ty, pos := pos, after := after, guard := guard }).run X.P w = .ok (.value u) w' /\ SR C' lam F.lm v u /\ St C' lam ms F b a w' cs /\ Ext C F.hp (Own lam ms) w C' F.hp (Own lam ms) w' := by
   intro u hu r h1 h2 h3 h4
   refine ⟨u, w, C, ?_, r, s, .refl _ _ _ _⟩
   simp only [execOp, hu]
   cases u with
   | pointer p => cases p with
    | none => exact absurd rfl h1
    | some p => rfl
   | nilIface => exact absurd rfl h2
   | nilFunc => exact absurd rfl h3
   | func fn p q => cases fn with
    | method n => exact absurd rfl (h4 n p q)
    | _ => rfl
   | _ => rfl
  split at h
  ·rename_i t g o hp
   cases h
   have r := s.opd hp
   obtain ⟨g', cells, β, _, _, e, _⟩ := id r
   rw [e] at r
   exact fin _ e r (by simp) (by simp) (by simp) (by simp)
  ·rename_i id o hp
   cases h
   have r := s.opd hp
   generalize hu : a.eval x = u at r
   have r' : VR C (.ptr id o) u := r
   cases r' with
   | ptr e => exact fin _ hu r (by simp) (by simp) (by simp) (by simp)
  ·rename_i id sz i j hp
   cases h
   have r := s.opd hp
   generalize hu : a.eval x = u at r
   have r' : VR C (.eptr id sz i j) u := r
   cases r' with
   | eptr e => exact fin _ hu r (by simp) (by simp) (by simp) (by simp)
  ·rename_i l hp
   cases h
   have r := s.opd hp
   generalize hu : a.eval x = u at r
   have r' : VR C (.vptr l) u := r
   cases r' with
   | vptr vs e1 e2 e3 => exact fin _ hu r (by simp) (by simp) (by simp) (by simp)
  ·rename_i f p q hp
   cases h
   have r := s.opd hp
   generalize hu : a.eval x = u at r
   have r' : VR C (.func (.func f) p q) u := r
   cases r' with
   | func e1 e2 e3 e4 => exact fin _ hu r (by simp) (by simp) (by simp) (by simp)
  ·cases h
 case binOp op t x y yt => exact plain (s.binV (yt := yt) h) rfl
 case unOp op t x => exact plain (s.unV h) rfl
 case convert t u x => exact plain (s.convV h) rfl
 case makeInterface t x => exact plain (s.ifaceV h) rfl
 case makeFunc fn p q => exact plain (s.funcV h) rfl
 case slice t x lo hi mx => exact plain (s.sliceV h) rfl
 case fieldAddr t x f => exact plain (s.fieldAddrV h) rfl
 case field t x f => exact plain (s.fieldV h) rfl
 case indexAddr t x i => exact plain (s.indexAddrV h) rfl
 case index t x i => exact plain (s.indexV h) rfl
 case lookup t x i ok => exact plain (s.lookupV h) rfl
 case typeAssert x xt t ok => exact plain (s.assertV h) rfl
 case extract t i => exact plain (s.extractV h) rfl
 case call c =>
  unfold Fr.callRd at h
  split at h
  ·rename_i bi hc
   obtain ⟨u, h1, h2⟩ := s.builtinV (P := X.P) (ty := ty) (cst := c.args.map fun | .const _ => true | _ => false) h
   exact ⟨u, w, C, by simp only [execOp, resolve, hc, Sem.run_bind, Sem.run_pure, Result.andThen_ok, invoke]; exact h1, h2, s, .refl _ _ _ _⟩
  ·cases h
 all_goals cases h
end
end Go.AM
namespace Go.AM
open Go
variable [Keep]
section steps
variable {P : Program} {w w' : World} {b : Frame} {a : Act} {cs : List Frame} {ops : Array Oper} {i : Nat} {rest : List Nat} {k : List Item} {o : Oper}
theorem stepA_value {u : Value} (ho : ops[i]? = some o) (hw : Region.wanted o (yielded ops a.tmps) = true) (hd : ∀ c, o.op ≠ .defer c) (hr : (execOp a.eval o).run P w = .ok (.value u) w') :
  step P (lone (b.atR a (.inRegion ops (i :: rest) :: k)) cs w) = .next (lone (b.atR (a.put o.dst u) (.inRegion ops rest :: k)) cs w') := by
 have hf := Frame.finish_atR b a ops i rest k u
 rw [ho] at hf
 refine step_lone_go ?_
 rw [stepGR_op ho hw, Oper.semAt_eq _ _ _ hd]
 simp only [stepG.apply, Sem.runT_eq, hr, GStep.bare_after]
 exact congrArg (fun fr => GStep.go { frame := fr, callers := cs, status := .running, dying := none } w') hf
theorem stepA_skip (ho : ops[i]? = some o) (hw : Region.wanted o (yielded ops a.tmps) = true) (hd : ∀ c, o.op ≠ .defer c) (hr : (execOp a.eval o).run P w = .ok .skip w') :
  step P (lone (b.atR a (.inRegion ops (i :: rest) :: k)) cs w) = .next (lone (b.atR (a.put o.dst undef) (.inRegion ops rest :: k)) cs w') := by
 have hf := Frame.finish_atR b a ops i rest k undef
 rw [ho] at hf
 refine step_lone_go ?_
 rw [stepGR_op ho hw, Oper.semAt_eq _ _ _ hd]
 simp only [stepG.apply, Sem.runT_eq, hr, GStep.bare_after]
 exact congrArg (fun fr => GStep.go { frame := fr, callers := cs, status := .running, dying := none } w') hf
theorem stepA_enter {f : FuncId} {args : Array Value} (ho : ops[i]? = some o) (hw : Region.wanted o (yielded ops a.tmps) = true) (hd : ∀ c, o.op ≠ .defer c) (hr : (execOp a.eval o).run P w = .ok (.enter f args) w') :
  step P (lone (b.atR a (.inRegion ops (i :: rest) :: k)) cs w) = .next (lone (Frame.enter P f args .normal) (b.atR a (.inRegion ops (i :: rest) :: k) :: cs) w') := by
 refine step_lone_go ?_
 rw [stepGR_op ho hw, Oper.semAt_eq _ _ _ hd]
 simp [stepG.apply, Sem.runT_eq, hr, GStep.bare_after, Frame.atR]
theorem stepA_round {l : Nat} {f : FuncId} {tmps : Array Value} {assign body : Code} (ho : ops[i]? = some o) (hw : Region.wanted o (yielded ops a.tmps) = true) (hd : ∀ c, o.op ≠ .defer c) (hr : (execOp a.eval o).run P w = .ok (.round l f tmps assign body) w') :
  step P (lone (b.atR a (.inRegion ops (i :: rest) :: k)) cs w) = .next (lone (Frame.round l f tmps assign body .normal) (b.atR a (.inRegion ops (i :: rest) :: k) :: cs) w') := by
 refine step_lone_go ?_
 rw [stepGR_op ho hw, Oper.semAt_eq _ _ _ hd]
 simp [stepG.apply, Sem.runT_eq, hr, GStep.bare_after, Frame.atR]
theorem stepA_panic {v : Value} (ho : ops[i]? = some o) (hw : Region.wanted o (yielded ops a.tmps) = true) (hd : ∀ c, o.op ≠ .defer c) (hr : (execOp a.eval o).run P w = .halt (.panic v) w') :
  step P (lone (b.atR a (.inRegion ops (i :: rest) :: k)) cs w) = .next (lone { b.atR a (.inRegion ops (i :: rest) :: k) with mode := .panicking [{ v, recovered := false }] } cs w') := by
 refine step_lone_go ?_
 rw [stepGR_op ho hw, Oper.semAt_eq _ _ _ hd]
 simp [stepG.apply, Sem.runT_eq, hr, GStep.bare_after, Frame.raise_atR]
theorem stepA_defer {d : Deferred} (ho : ops[i]? = some o) (hw : Region.wanted o (yielded ops a.tmps) = true) (hb : b.roundOf = none) (hr : (execOp a.eval o).run P w = .ok (.defer d) w') :
  step P (lone (b.atR a (.inRegion ops (i :: rest) :: k)) cs w) = .next (lone (b.atR ({ a with defers := d :: a.defers }.put o.dst undef) (.inRegion ops rest :: k)) cs w') := by
 have hf := Frame.finish_atR b { a with defers := d :: a.defers } ops i rest k undef
 rw [ho] at hf
 refine step_lone_go ?_
 rw [stepGR_op ho hw, hb, Oper.semAt_none]
 simp only [stepG.apply, Sem.runT_eq, hr, GStep.bare_after]
 exact congrArg (fun fr => GStep.go { frame := fr, callers := cs, status := .running, dying := none } w') hf
theorem stepA_recover {r : Option (Value × List Frame)} (ho : ops[i]? = some o) (hw : Region.wanted o (yielded ops a.tmps) = true) (hd : ∀ c, o.op ≠ .defer c) (hb : b.roundOf = none) (hr : (execOp a.eval o).run P w = .ok .recover w')
  (ht : tryRecover (b.atR a (.inRegion ops (i :: rest) :: k)) cs = r) :
  step P (lone (b.atR a (.inRegion ops (i :: rest) :: k)) cs w) = .next (lone (b.atR (a.put o.dst (match r with | some (v, _) => v | none => .nilIface)) (.inRegion ops rest :: k)) (match r with | some (_, cs') => cs' | none => cs) w') := by
 have hf := fun v => Frame.finish_atR b a ops i rest k v
 simp only [ho] at hf
 refine step_lone_go ?_
 rw [stepGR_op ho hw, Oper.semAt_eq _ _ _ hd]
 have hro : (b.atR a (.inRegion ops (i :: rest) :: k)).roundOf = none := hb
 simp only [stepG.apply, Sem.runT_eq, hr, GStep.bare_after, hro, ht]
 cases r with
 | none => exact congrArg (fun fr => GStep.go { frame := fr, callers := cs, status := .running, dying := none } w') (hf _)
 | some p => exact congrArg (fun fr => GStep.go { frame := fr, callers := p.2, status := .running, dying := none } w') (hf _)
end steps
section
variable {P : Program} {w w' : World} {C : Cfg} {lam : Nat -> Option Nat} {ms : List Nat} {F : Fr} {b : Frame} {a : Act} {cs : List Frame}
theorem Fr.tmp_put (F : Fr) (d : Nat) (v : AV) (t : Tmp) : (F.put (some d) v).tmp t = if d = t then v else F.tmp t := by
 unfold Fr.tmp Fr.put
 simp only [Mp.get_set]
 by_cases h : d = t <;> simp [h]
theorem getD_set (tmps : Array Value) (d t : Nat) (u : Value) (hd : d < tmps.size) : (tmps.setIfInBounds d u).getD t undef = if d = t then u else tmps.getD t undef := by
 simp only [Array.getD_eq_getD_getElem?, Array.getElem?_setIfInBounds]
 by_cases h : d = t
 ·subst h; simp [hd]
 ·simp [h]
theorem St.put (s : St C lam ms F b a w cs) {d : Option Tmp} {v : AV} {u : Value} (r : SR C lam F.lm v u) (hd : ∀ t, d = some t -> t < a.tmps.size) : St C lam ms (F.put d v) b (a.put d u) w cs := by
  cases d with
  | none => exact s
  | some d =>
    exact { wr := s.wr, box := s.box, inj := s.inj, mark := s.mark, nodup := s.nodup, live := s.live, osig := s.osig, df := s.df, up := s.up, fn := s.fn, rnd := s.rnd,
            env := fun t => by
              rw [Fr.tmp_put]
              have : (a.put (some d) u).tmps.getD t undef = if d = t then u else a.tmps.getD t undef := getD_set _ _ _ _ (hd d rfl)
              rw [this]
              split
              · exact r
              · exact s.env t }
theorem Act.put_size (a : Act) (d : Option Tmp) (u : Value) : (a.put d u).tmps.size = a.tmps.size := by cases d <;> simp [Act.put]
def muPush (C : Cfg) (id : Nat) (L : Loc) : Cfg := { C with mu := fun j => if j = id then some L else C.mu j }
theorem muPush_le (r : WR C F.hp w) (L : Loc) : C.le (muPush C F.hp.next L) :=
 ⟨fun id L' h => by
  have := r.fresh id L' h
  simp only [muPush]
  rw [if_neg (by omega)]
  exact h, fun _ _ h => h⟩
theorem Heap.get_new (h : Heap) (blk : Blk) (id : Nat) : (h.new blk).get id = if h.next = id then some blk else h.get id := by
 unfold Heap.new Heap.get
 simp
theorem Heap.get_put (h : Heap) (id' : Nat) (blk : Blk) (id : Nat) : (h.put id' blk).get id = if id' = id then some blk else h.get id := by
 unfold Heap.put Heap.get
 simp
theorem Heap.get_del (h : Heap) (id' id : Nat) : (h.del id').get id = if id' = id then none else h.get id := by
 unfold Heap.del Heap.get
 simp
theorem St.fresh (s : St C lam ms F b a w cs) {o : Obj} {blk : Blk} {L : Loc} (hh : w'.heap = w.heap.push o) (hos : w'.os = w.os) (htp : w'.tape = w.tape) (hout : w'.output = w.output)
    (hL : L.b = w.heap.size) (hbr : BR (muPush C F.hp.next L) w' L blk) :
    St (muPush C F.hp.next L) lam ms { F with hp := F.hp.new blk } b a w' cs /\ Ext C F.hp (Own lam ms) w (muPush C F.hp.next L) (F.hp.new blk) (Own lam ms) w' := by
  have hle := muPush_le s.wr L
  have old : ∀ id blk', (F.hp.new blk).get id = some blk' -> id ≠ F.hp.next -> F.hp.get id = some blk' /\ (muPush C F.hp.next L).mu id = C.mu id := fun id blk' h hn => by
    rw [Heap.get_new, if_neg (fun e => hn e.symm)] at h
    exact ⟨h, by simp [muPush, hn]⟩
  have new : ∀ blk', (F.hp.new blk).get F.hp.next = some blk' -> blk' = blk /\ (muPush C F.hp.next L).mu F.hp.next = some L := fun blk' h => by
    rw [Heap.get_new, if_pos rfl] at h
    exact ⟨by cases h; rfl, by simp [muPush]⟩
  have oldb : ∀ id blk' L', F.hp.get id = some blk' -> C.mu id = some L' -> L'.b < w.heap.size := fun id blk' L' h1 h2 => s.wr.live_lt ⟨id, blk', L', h1, h2, rfl⟩
  have hlive : ∀ β, Live (muPush C F.hp.next L) (F.hp.new blk) β -> Live C F.hp β \/ β = w.heap.size := by
    rintro β ⟨id, blk', L', h1, h2, rfl⟩
    by_cases hn : id = F.hp.next
    · subst hn
      obtain ⟨_, e⟩ := new _ h1
      rw [e] at h2
      cases h2
      exact .inr hL
    · obtain ⟨g1, g2⟩ := old _ _ h1 hn
      rw [g2] at h2
      exact .inl ⟨id, blk', L', g1, h2, rfl⟩
  constructor
  · refine { wr := ⟨fun x v h => ?_, fun id blk' h => ?_, fun id id' blk1 blk2 L1 L2 h1 h2 h3 h4 h5 => ?_, fun id blk' L' x v h1 h2 h3 => ?_, fun id L' h => ?_, s.wr.base.on hle.sig (fun x v e => heap_push hh (s.wr.sig_lt e))⟩,
             env := fun t => (s.env t).mono hle, box := fun t β ht => ?_, inj := s.inj, mark := fun m hm => (heap_push hh (s.own_lt (.inr hm))).trans (s.mark m hm), nodup := s.nodup,
             live := fun β ho l => ?_, osig := s.osig, df := s.df.mono hle, up := s.up.mono hle, fn := s.fn, rnd := s.rnd }
    · have hb := s.wr.sig_lt h
      have := s.wr.sig x v h
      unfold World.cell? at this ⊢
      rw [heap_push hh hb]
      exact this
    · by_cases hn : id = F.hp.next
      · subst hn
        obtain ⟨rfl, e⟩ := new _ h
        exact ⟨L, e, hbr⟩
      · obtain ⟨g1, g2⟩ := old _ _ h hn
        obtain ⟨L', h1, h2⟩ := s.wr.blk id _ g1
        exact ⟨L', g2.trans h1, h2.same hle (heap_push hh h2.lt)⟩
    · by_cases hn : id = F.hp.next <;> by_cases hn' : id' = F.hp.next
      · rw [hn, hn']
      · subst hn
        obtain ⟨_, e⟩ := new _ h1
        rw [e] at h3
        cases h3
        obtain ⟨g1, g2⟩ := old _ _ h2 hn'
        rw [g2] at h4
        have := oldb _ _ _ g1 h4
        omega
      · subst hn'
        obtain ⟨_, e⟩ := new _ h2
        rw [e] at h4
        cases h4
        obtain ⟨g1, g2⟩ := old _ _ h1 hn
        rw [g2] at h3
        have := oldb _ _ _ g1 h3
        omega
      · obtain ⟨g1, g2⟩ := old _ _ h1 hn
        obtain ⟨k1, k2⟩ := old _ _ h2 hn'
        rw [g2] at h3
        rw [k2] at h4
        exact s.wr.inj id id' _ _ L1 L2 g1 k1 h3 h4 h5
    · by_cases hn : id = F.hp.next
      · subst hn
        obtain ⟨_, e⟩ := new _ h1
        rw [e] at h2
        cases h2
        have := s.wr.sig_lt h3
        omega
      · obtain ⟨g1, g2⟩ := old _ _ h1 hn
        rw [g2] at h2
        exact s.wr.apart id _ L' x v g1 h2 h3
    · simp only [muPush] at h
      show id < F.hp.next + 1
      split at h
      · omega
      · have := s.wr.fresh id L' h
        omega
    · obtain ⟨g, cells, c, h1, h2, h3, h4⟩ := s.box t β ht
      exact ⟨g, cells, c, h1, h2.same (heap_push hh h2.lt), h3.mono hle, h4⟩
    · rcases hlive β l with l | l
      · exact s.live β ho l
      · have := s.own_lt ho
        omega
  · exact { le := hle, os := hos, tape := htp, output := hout, size := by rw [hh]; simp, same := fun β h _ _ => heap_push hh h, live := fun β hb l => by
              rcases hlive β l with l | l
              · exact .inl l
              · omega
            own := fun β _ o => .inr o, sig := fun x v hb h => .inl h, next := Nat.le_succ _ }
def oneV (v : Value) : Bool := match v with | .agg _ | .tuple _ => false | _ => true
theorem run_storeCells {B O : Nat} : ∀ (l : List Value) (i : Nat) (w : World) (c : Array Value), isCells w B c -> O + i + l.length <= c.size -> (∀ v ∈ l, oneV v = true) ->
  ∃ w', (storeCells ⟨B, O, none⟩ l i).run P w = .ok () w' /\ isCells w' B (setMany c (O + i) l) /\ w'.heap.size = w.heap.size /\ (∀ β, β ≠ B -> w'.heap[β]? = w.heap[β]?) /\ w'.os = w.os /\ w'.tape = w.tape /\ w'.output = w.output := by
 intro l
 induction l with
 | nil => intro i w c h _ _; exact ⟨w, rfl, h, rfl, fun _ _ => rfl, rfl, rfl, rfl⟩
 | cons v l ih =>
  intro i w c h hle ho
  simp at hle
  have hlt : O + i < c.size := by omega
  have hv : v.oneCell' = true := by
   have := ho v (by simp)
   cases v <;> simp [oneV] at this <;> rfl
  have hcell : w.cell? ⟨B, O + i, none⟩ = some c[O + i] := by rw [h.cell]; simp [hlt]
  have hfr := h.frozen hlt none
  have hstore : (store ⟨B, O + i, none⟩ v).run P w = .ok () (w.setCell ⟨B, O + i, none⟩ v) := by
   rw [run_store P w _ v .plain hv, hcell]
   simp [hfr]
  have h1 : isCells (w.setCell ⟨B, O + i, none⟩ v) B (c.setIfInBounds (O + i) v) := by
   obtain ⟨T, lo, hi, g1, g2⟩ := h
   refine ⟨T, lo, hi, ?_, by simpa using g2⟩
   simp [World.setCell, Array.getElem?_modify, g1]
  obtain ⟨w', e1, e2, e3, e4, e5, e6, e7⟩ := ih (i + 1) _ _ h1 (by simp; omega) (fun u hu => ho u (by simp [hu]))
  refine ⟨w', ?_, by rw [setMany]; exact e2, by rw [e3]; simp [World.setCell], fun β hb => ?_, e5, e6, e7⟩
  ·simp only [storeCells, addr_add, Sem.run_bind, hstore, Result.andThen_ok]
   exact e1
  ·rw [e4 β hb]
   simp only [World.setCell, Array.getElem?_modify]
   rw [if_neg (fun e => hb e.symm)]
theorem one_of_VR {x : AV} {v : Value} (r : VR C x v) (h : x.one = true) : oneV v = true := by
 obtain ⟨_, h2⟩ := r.oneCell h
 cases v <;> simp_all [oneV]
theorem VRs.one_all {l : List AV} {vs : Array Value} (r : VRs C l vs) (h : ∀ x ∈ l, x.one = true) : ∀ v ∈ vs.toList, oneV v = true := by
 intro v hv
 obtain ⟨i, hi⟩ := List.mem_iff_getElem?.1 hv
 have hlt : i < l.length := by
  rcases Nat.lt_or_ge i l.length with h' | h'
  ·exact h'
  ·have : vs.toList.length = l.length := by simpa using r.1
   rw [List.getElem?_eq_none (by omega)] at hi; cases hi
 obtain ⟨u, hu, hr⟩ := r.get (i := i) (a := l[i]) (by simp [hlt])
 have : vs.toList[i]? = some u := by simpa using hu
 rw [hi] at this
 cases this
 exact one_of_VR hr (h _ (List.getElem_mem hlt))
end
end Go.AM
namespace Go.AM
open Go
variable [Keep]
section
variable {P : Program} {w w' : World} {C : Cfg} {lam : Nat -> Option Nat} {ms : List Nat} {F : Fr} {b : Frame} {a : Act} {cs : List Frame}
theorem WR.turn {h h' : Heap} {C' : Cfg} {id id' : Nat} {blk blk' : Blk} {L L' : Loc} (r : WR C h w) (hle : C.le C') (hsig : C'.sig = C.sig) (hg : h.get id = some blk) (hm : C.mu id = some L)
    (hget : ∀ j bj, h'.get j = some bj -> (j ≠ id' /\ j ≠ id /\ h.get j = some bj /\ ∀ Lj, C'.mu j = some Lj -> C.mu j = some Lj) \/ (j = id' /\ bj = blk'))
    (hmu : C'.mu id' = some L') (hL : L'.b = L.b) (hnext : h.next <= h'.next) (hfresh : ∀ j Lj, C'.mu j = some Lj -> j < h'.next)
    (hs : w'.heap.size = w.heap.size) (hsame : ∀ β, β ≠ L.b -> w'.heap[β]? = w.heap[β]?) (hbr : BR C' w' L' blk')
    (hos : w'.os = w.os) (htp : w'.tape = w.tape) (hout : w'.output = w.output) :
    WR C' h' w' /\ Ext C h (fun _ => False) w C' h' (fun _ => False) w' := by
  have hlv : Live C h L.b := ⟨id, blk, L, hg, hm, rfl⟩
  have hlive : ∀ β, Live C' h' β -> Live C h β := by
    rintro β ⟨j, bj, Lj, h1, h2, rfl⟩
    rcases hget j bj h1 with ⟨_, _, g1, g2⟩ | ⟨rfl, _⟩
    · exact ⟨j, bj, Lj, g1, g2 _ h2, rfl⟩
    · rw [hmu] at h2
      cases h2
      rw [hL]
      exact hlv
  constructor
  · refine ⟨fun x v h => ?_, fun j bj h => ?_, fun j1 j2 b1 b2 L1 L2 h1 h2 h3 h4 h5 => ?_, fun j bj Lj x v h1 h2 h3 => ?_, hfresh, r.base.on hle.sig (fun x v e => hsame _ (r.apart id blk L x v hg hm e))⟩
    · rw [hsig] at h
      have hne : x.block ≠ L.b := r.apart id blk L x v hg hm h
      have := r.sig x v h
      unfold World.cell? at this ⊢
      rw [hsame _ hne]
      exact this
    · rcases hget j bj h with ⟨_, g0, g1, g2⟩ | ⟨rfl, rfl⟩
      · obtain ⟨Lj, k1, k2⟩ := r.blk j bj g1
        refine ⟨Lj, hle.mu _ _ k1, k2.same hle (hsame _ fun e => g0 (r.inj j id bj blk Lj L g1 hg k1 hm e))⟩
      · exact ⟨L', hmu, hbr⟩
    · rcases hget j1 b1 h1 with ⟨_, k0, k1, k2⟩ | ⟨rfl, _⟩ <;> rcases hget j2 b2 h2 with ⟨_, m0, m1, m2⟩ | ⟨rfl, _⟩
      · exact r.inj j1 j2 b1 b2 L1 L2 k1 m1 (k2 _ h3) (m2 _ h4) h5
      · rw [hmu] at h4
        cases h4
        exact absurd (r.inj j1 id b1 blk L1 L k1 hg (k2 _ h3) hm (h5.trans hL)) k0
      · rw [hmu] at h3
        cases h3
        exact absurd (r.inj j2 id b2 blk L2 L m1 hg (m2 _ h4) hm (h5.symm.trans hL)) m0
      · rfl
    · rw [hsig] at h3
      rcases hget j bj h1 with ⟨_, _, g1, g2⟩ | ⟨rfl, _⟩
      · exact r.apart j bj Lj x v g1 (g2 _ h2) h3
      · rw [hmu] at h2
        cases h2
        rw [hL]
        exact r.apart id blk L x v hg hm h3
  · exact { le := hle, os := hos, tape := htp, output := hout, size := by omega, same := fun β hb hl _ => hsame β fun e => hl (e ▸ hlv), live := fun β _ l => .inl (hlive β l), own := fun _ _ o => o.elim,
            sig := fun x v _ h => .inl (by rw [hsig] at h; exact h), next := hnext }
theorem WR.put {h : Heap} {id : Nat} {blk blk' : Blk} {L : Loc} (r : WR C h w) (hg : h.get id = some blk) (hm : C.mu id = some L) (hs : w'.heap.size = w.heap.size) (hsame : ∀ β, β ≠ L.b -> w'.heap[β]? = w.heap[β]?)
  (hbr : BR C w' L blk') (hos : w'.os = w.os) (htp : w'.tape = w.tape) (hout : w'.output = w.output) :
  WR C (h.put id blk') w' /\ Ext C h (fun _ => False) w C (h.put id blk') (fun _ => False) w' := by
 refine WR.turn (id' := id) (L' := L) (blk' := blk') r (.refl C) rfl hg hm (fun j bj hj => ?_) hm rfl (Nat.le_refl _) (fun j Lj hj => r.fresh j Lj hj) hs hsame hbr hos htp hout
 rw [Heap.get_put] at hj
 by_cases e : id = j
 ·rw [if_pos e] at hj
  exact .inr ⟨e.symm, by cases hj; rfl⟩
 ·rw [if_neg e] at hj
  exact .inl ⟨fun e' => e e'.symm, fun e' => e e'.symm, hj, fun _ h => h⟩
theorem St.turn {C' : Cfg} {h' : Heap} (s : St C lam ms F b a w cs) (r : WR C' h' w' /\ Ext C F.hp (fun _ => False) w C' h' (fun _ => False) w') :
  St C' lam ms { F with hp := h' } b a w' cs /\ Ext C F.hp (Own lam ms) w C' h' (Own lam ms) w' := ⟨s.later r.1 r.2, r.2.wide _⟩
theorem WR.del {h : Heap} (r : WR C h w) (id : Nat) : WR C (h.del id) w /\ Ext C h (fun _ => False) w C (h.del id) (fun _ => False) w := by
  have hget : ∀ j bj, (h.del id).get j = some bj -> h.get j = some bj := fun j bj hj => by
    rw [Heap.get_del] at hj
    split at hj
    · cases hj
    · exact hj
  refine ⟨⟨r.sig, fun j bj hj => r.blk j bj (hget j bj hj), fun j1 j2 b1 b2 L1 L2 h1 h2 => r.inj j1 j2 b1 b2 L1 L2 (hget _ _ h1) (hget _ _ h2), fun j bj Lj x v h1 => r.apart j bj Lj x v (hget _ _ h1), r.fresh, r.base⟩, ?_⟩
  exact { le := .refl C, os := rfl, tape := rfl, output := rfl, size := Nat.le_refl _, same := fun _ _ _ _ => rfl, live := fun β _ ⟨j, bj, Lj, h1, h2, h3⟩ => .inl ⟨j, bj, Lj, hget _ _ h1, h2, h3⟩,
          own := fun _ _ o => o.elim, sig := fun _ _ _ h => .inl h, next := Nat.le_refl _ }
def lamSet (lam : Nat -> Option Nat) (s β : Nat) : Nat -> Option Nat := fun t => if t = s then some β else lam t
theorem SR.newBox {v : AV} {u : Value} {lm : Mp (Nat × List AV)} {s β : Nat} {cells : List AV} (h : SR C lam lm v u) : SR C (lamSet lam s β) (lm.set s (nextGen lm s, cells)) v u := by
 cases v <;> first | exact h | skip
 rename_i s' g off
 obtain ⟨g', cs', β', h1, h2, h3, h4⟩ := h
 by_cases e : s = s'
 ·subst e
  refine ⟨nextGen lm s, cells, β', by simp, ?_, h3, fun e => ?_⟩
  ·simp [nextGen, h1]; omega
  ·simp [nextGen, h1] at e; omega
 ·refine ⟨g', cs', β', by simp [e, h1], h2, h3, fun e' => ?_⟩
  simp only [lamSet]
  rw [if_neg (fun e' => e e'.symm)]
  exact h4 e'
theorem St.newBox (s : St C lam ms F b a w cs) {t : Nat} {cells : List AV} {c : Array Value} {T : TypeId} (hr : VRs C cells c) (h1 : ∀ x ∈ cells, x.one = true) :
    let w' : World := { w with heap := w.heap.push (.cells c T) }
    let lam' := lamSet lam t w.heap.size
    let F' : Fr := { F with lm := F.lm.set t (nextGen F.lm t, cells) }
    SR C lam' F'.lm (.lptr t (nextGen F.lm t) 0) (.pointer (some ⟨w.heap.size, 0, none⟩)) /\ St C lam' ms F' b a w' cs /\ Ext C F.hp (Own lam ms) w C F'.hp (Own lam' ms) w' := by
  intro w' lam' F'
  have hh : w'.heap = w.heap.push (.cells c T) := rfl
  have hown : ∀ β, Own lam' ms β -> Own lam ms β \/ β = w.heap.size := by
    rintro β (⟨t', ht⟩ | h)
    · simp only [lam', lamSet] at ht
      split at ht
      · cases ht; exact .inr rfl
      · exact .inl (.inl ⟨t', ht⟩)
    · exact .inl (.inr h)
  refine ⟨⟨nextGen F.lm t, cells, w.heap.size, by simp [F'], Nat.le_refl _, rfl, fun _ => by simp [lam', lamSet]⟩, ?_, ?_⟩
  · refine { wr := ⟨fun x v h => ?_, fun id blk h => ?_, s.wr.inj, s.wr.apart, s.wr.fresh, s.wr.base.on (fun _ _ e => e) (fun x v e => heap_push hh (s.wr.sig_lt e))⟩, env := fun t' => (s.env t').newBox, box := fun t' β ht => ?_, inj := fun t1 t2 β h1 h2 => ?_,
             mark := fun m hm => (heap_push hh (s.own_lt (.inr hm))).trans (s.mark m hm), nodup := s.nodup, live := fun β ho l => ?_, osig := fun β x v ho h e => ?_, df := s.df, up := s.up, fn := s.fn, rnd := s.rnd }
    · have hb := s.wr.sig_lt h
      have := s.wr.sig x v h
      unfold World.cell? at this ⊢
      rw [heap_push hh hb]
      exact this
    · obtain ⟨L, k1, k2⟩ := s.wr.blk id blk h
      exact ⟨L, k1, k2.same (.refl C) (heap_push hh k2.lt)⟩
    · simp only [lam', lamSet] at ht
      split at ht
      · rename_i e
        subst e
        cases ht
        refine ⟨nextGen F.lm t', cells, c, by simp [F'], ⟨T, 0, 0, ?_, .inl (Nat.le_refl _)⟩, hr, h1⟩
        simp [w']
      · rename_i e
        obtain ⟨g, cells', c', k1, k2, k3, k4⟩ := s.box t' β ht
        exact ⟨g, cells', c', (by show (F.lm.set t _).get t' = _; rw [Mp.get_set, if_neg (fun e' => e (Eq.symm e'))]; exact k1), k2.same (heap_push hh k2.lt), k3, k4⟩
    · simp only [lam', lamSet] at h1 h2
      split at h1 <;> split at h2
      · rename_i e1 e2; rw [e1, e2]
      · cases h1
        have := s.own_lt (.inl ⟨t2, h2⟩)
        omega
      · cases h2
        have := s.own_lt (.inl ⟨t1, h1⟩)
        omega
      · exact s.inj t1 t2 β h1 h2
    · rcases hown β ho with ho | rfl
      · exact s.live β ho l
      · have := s.wr.live_lt l
        omega
    · rcases hown β ho with ho | rfl
      · exact s.osig β x v ho h e
      · have := s.wr.sig_lt h
        omega
  · exact { le := .refl C, os := rfl, tape := rfl, output := rfl, size := by simp [w'], same := fun β h _ _ => heap_push hh h, live := fun β _ l => .inl l, own := fun β hb o => by
              rcases hown β o with o | rfl
              · exact .inr o
              · omega
            sig := fun _ _ _ h => .inl h, next := Nat.le_refl _ }
theorem St.writeBox (s : St C lam ms F b a w cs) {t g β : Nat} {cells cells' : List AV} {c' : Array Value} (hg : F.lm.get t = some (g, cells)) (hl : lam t = some β) (hr : VRs C cells' c') (h1 : ∀ x ∈ cells', x.one = true)
    (hc : isCells w' β c') (hs : w'.heap.size = w.heap.size) (hsame : ∀ β', β' ≠ β -> w'.heap[β']? = w.heap[β']?) (hos : w'.os = w.os) (htp : w'.tape = w.tape) (hout : w'.output = w.output) :
    St C lam ms { F with lm := F.lm.set t (g, cells') } b a w' cs /\ Ext C F.hp (Own lam ms) w C F.hp (Own lam ms) w' := by
  have hown : Own lam ms β := .inl ⟨t, hl⟩
  constructor
  · refine { wr := ⟨fun x v h => ?_, fun id blk h => ?_, s.wr.inj, s.wr.apart, s.wr.fresh, s.wr.base.on (fun _ _ e => e) (fun x v e => hsame _ (s.osig β x v hown e))⟩, env := fun t' => ?_, box := fun t' β' ht => ?_, inj := s.inj, mark := fun m hm => ?_, nodup := s.nodup, live := s.live, osig := s.osig, df := s.df, up := s.up, fn := s.fn, rnd := s.rnd }
    · have := s.wr.sig x v h
      unfold World.cell? at this ⊢
      rw [hsame _ (s.osig β x v hown h)]
      exact this
    · obtain ⟨L, k1, k2⟩ := s.wr.blk id blk h
      exact ⟨L, k1, k2.same (.refl C) (hsame _ fun e => s.live β hown ⟨id, blk, L, h, k1, e⟩)⟩
    · have := s.env t'
      show SR C lam (F.lm.set t (g, cells')) (F.tmp t') _
      revert this
      cases F.tmp t' <;> intro this <;> first | exact this | skip
      rename_i s' g1 off
      obtain ⟨g', cs', β', k1, k2, k3, k4⟩ := this
      by_cases e : t = s'
      · subst e
        rw [hg] at k1
        cases k1
        exact ⟨g, cells', β', by simp, k2, k3, k4⟩
      · exact ⟨g', cs', β', by simp [e, k1], k2, k3, k4⟩
    · by_cases e : t = t'
      · subst e
        rw [hl] at ht
        cases ht
        exact ⟨g, cells', c', by simp, hc, hr, h1⟩
      · obtain ⟨g1, cells1, c1, k1, k2, k3, k4⟩ := s.box t' β' ht
        exact ⟨g1, cells1, c1, by simp [e, k1], k2.same (hsame _ fun e' => e (s.inj t t' β hl (e' ▸ ht))), k3, k4⟩
    · exact (hsame m fun e => by
        obtain ⟨g1, cells1, c1, k1, ⟨T, lo, hi, k2, _⟩, _⟩ := s.box t β hl
        have := s.mark m hm
        rw [e, k2] at this
        cases this).trans (s.mark m hm)
  · exact { le := .refl C, os := hos, tape := htp, output := hout, size := by omega, same := fun β' _ _ ho => hsame β' fun e => ho (e ▸ hown), live := fun β _ l => .inl l, own := fun _ _ o => .inr o,
            sig := fun _ _ _ h => .inl h, next := Nat.le_refl _ }
end
end Go.AM
namespace Go.AM
open Go
variable [Keep]
def Ran (P : Program) (ρ : Operand -> Value) (o : Oper) (w : World) (u : Value) (w' : World) : Prop :=
 (execOp ρ o).run P w = .ok (.value u) w' \/ (u = undef /\ (execOp ρ o).run P w = .ok .skip w')
def boxy : Op -> Bool
 | .alloc _ | .box _ _ => true
 | _ => false
def Eff (P : Program) (C : Cfg) (lam : Nat -> Option Nat) (ms : List Nat) (F : Fr) (b : Frame) (a : Act) (w : World) (cs : List Frame) (o : Oper) (v : AV) (F' : Fr) : Prop :=
 ∃ C' lam' u w', Ran P a.eval o w u w' /\ SR C' lam' F'.lm v u /\ St C' lam' ms F' b a w' cs /\ Ext C F.hp (Own lam ms) w C' F'.hp (Own lam' ms) w' /\ (boxy o.op = false -> lam' = lam)
section
variable {P : Program} {w w' : World} {C : Cfg} {lam : Nat -> Option Nat} {ms : List Nat} {F : Fr} {b : Frame} {a : Act} {cs : List Frame}
theorem okO_val {r : Option (AV × Fr)} {v : AV} {F' : Fr} (h : okO r = .val v F') : r = some (v, F') := by
 unfold okO at h
 split at h
 ·cases h; rfl
 ·cases h
theorem okO_pan {r : Option (AV × Fr)} {v : AV} {F' : Fr} (h : okO r = .pan v F') : False := by
 unfold okO at h
 split at h <;> cases h
theorem newBox_ok {X : Ctx} (s : St C lam ms F b a w cs) {o : Oper} {d : Option Tmp} {v r : AV} {F' : Fr} {u : Value} {T : TypeId} (h : newBox X F d v = some (r, F')) (hv : VR C v u) (hbx : boxy o.op = true)
  (hr : Ran P a.eval o w (.pointer (some ⟨w.heap.size, 0, none⟩)) { w with heap := w.heap.push (.cells u.cells T) }) : Eff P C lam ms F b a w cs o r F' := by
 unfold newBox at h
 split at h
 ·cases h
 ·rename_i t
  split at h
  ·cases h
  ·rename_i ht
   have ht' : isTuple v = false := by simpa using ht
   obtain ⟨k1, k2⟩ := hv.cells (not_tuple ht')
   split at h
   ·cases h
    let L : Loc := ⟨w.heap.size, 0, 0, 0⟩
    have hle := muPush_le s.wr L
    obtain ⟨s', e'⟩ := s.fresh (w' := { w with heap := w.heap.push (.cells u.cells T) }) (o := .cells u.cells T) (blk := .var v.cells) (L := L) rfl rfl rfl rfl rfl
     ⟨u.cells, ⟨T, 0, 0, by simp [L], .inl (Nat.le_refl _)⟩, rfl, k1.mono hle, k2⟩
    exact ⟨_, _, _, _, hr, SR.of (VR.ptr (L := L) (by simp [muPush])), s', e', fun h => absurd (hbx.symm.trans h) (by simp)⟩
   ·cases h
    obtain ⟨k3, k4, k5⟩ := s.newBox (t := t) (T := T) k1 k2
    exact ⟨_, _, _, _, hr, k3, k4, k5, fun h => absurd (hbx.symm.trans h) (by simp)⟩
theorem St.allocE {X : Ctx} (s : St C lam ms F b a w cs) {o : Oper} {t : TypeId} {v : AV} {F' : Fr} (ho : o.op = .alloc t) (h : F.allocE X o.dst t = .val v F') : Eff X.P C lam ms F b a w cs o v F' := by
 unfold Fr.allocE at h
 split at h
 ·rename_i z hz
  obtain ⟨zv, z1, z2, _⟩ := run_zero (P := X.P) (w := w) (C := C) hz
  refine newBox_ok (T := t) s (okO_val h) z2 (by rw [ho]; rfl) (.inl ?_)
  simp [execOp, ho, Instr.alloc, z1, newVar, newRow]
 ·cases h
theorem St.boxE {X : Ctx} (s : St C lam ms F b a w cs) {o : Oper} {t : TypeId} {x : Operand} {v : AV} {F' : Fr} (ho : o.op = .box t x) (h : F.boxE X o.dst x = .val v F') : Eff X.P C lam ms F b a w cs o v F' := by
 unfold Fr.boxE at h
 split at h
 ·rename_i y hy
  refine newBox_ok (T := t) s (okO_val h) (s.opv hy) (by rw [ho]; rfl) (.inl ?_)
  simp [execOp, ho, Instr.box, newVar, newRow]
 ·cases h
theorem run_storeVar {t : TypeId} {ag : Bool} {n B O : Nat} {c : Array Value} {v : Value} (hl : lay P t = some (ag, n)) (hn : v.cells.size = n) (hc : isCells w B c) (hle : O + n <= c.size) (h1 : ∀ x ∈ v.cells.toList, oneV x = true) :
  ∃ w', (storeVar t ⟨B, O, none⟩ v).run P w = .ok () w' /\ isCells w' B (setMany c O v.cells.toList) /\ w'.heap.size = w.heap.size /\ (∀ β, β ≠ B -> w'.heap[β]? = w.heap[β]?) /\ w'.os = w.os /\ w'.tape = w.tape /\ w'.output = w.output := by
 obtain ⟨_, k2, _⟩ := run_lay (P := P) (w := w) hl
 have hll : v.cells.toList.length = n := by simpa using hn
 obtain ⟨w', e1, e2, e3⟩ := run_storeCells (P := P) v.cells.toList 0 w c hc (by rw [Nat.add_zero, hll]; exact hle) h1
 refine ⟨w', ?_, by simpa using e2, e3⟩
 simp only [storeVar, Sem.run_bind, k2, Result.andThen_ok, hn, ne_eq, not_true_eq_false, if_false, e1, Sem.run_pure]
theorem asElem_cells {e : AV} {q : List AV} (hl : q.length = e.cells.length) (h1 : ∀ y ∈ q, y.one = true) : (asElem (isAggV e) q).cells = q := by
 have key : ∀ q : List AV, q.length = 1 -> (∀ y ∈ q, y.one = true) -> (asElem false q).cells = q := fun q h1 h2 => by
  obtain ⟨y, rfl⟩ := List.length_eq_one_iff.1 h1
  have := h2 y (by simp)
  cases y <;> first | rfl | simp [AV.one] at this
 cases e with
 | agg l => simp [asElem, isAggV, AV.cells]
 | _ => exact key q hl h1
theorem St.write (s : St C lam ms F b a w cs) {p : AV} {pv : Value} {F' : Fr} {t : TypeId} {ag : Bool} {x : AV} {xv : Value} (hp : SR C lam F.lm p pv) (hl : lay P t = some (ag, x.cells.length)) (hx : VR C x xv) (ht : isTuple x = false)
  (h : F.write p x.cells = some F') :
  ∃ A w', pv = .pointer (some A) /\ (storeVar t A xv).run P w = .ok () w' /\ St C lam ms F' b a w' cs /\ Ext C F.hp (Own lam ms) w C F'.hp (Own lam ms) w' := by
 obtain ⟨k1, k2⟩ := hx.cells (not_tuple ht)
 have hone : ∀ y ∈ xv.cells.toList, oneV y = true := k1.one_all k2
 have hsz : xv.cells.size = x.cells.length := k1.1
 unfold Fr.write at h
 split at h
 ·rename_i t' g off
  split at h
  ·rename_i g' cells hg
   split at h
   ·rename_i hh
    obtain ⟨rfl, hle⟩ := hh
    cases h
    obtain ⟨g2, cs2, β, e1, _, rfl, e2⟩ := hp
    rw [hg] at e1
    cases e1
    have e3 := e2 rfl
    obtain ⟨g3, cells3, c, f1, f2, f3, f4⟩ := s.box t' β e3
    rw [hg] at f1
    cases f1
    obtain ⟨w', r1, r2, r3, r4, r5, r6, r7⟩ := run_storeVar (P := P) (w := w) (O := off) hl hsz f2 (by rw [f3.1]; exact hle) hone
    obtain ⟨s', e'⟩ := s.writeBox (w' := w') hg e3 (VRs.splice f3 k1 hle) (one_splice f4 k2) r2 r3 r4 r5 r6 r7
    exact ⟨_, w', rfl, r1, s', e'⟩
   ·cases h
  ·cases h
 ·rename_i id off
  split at h
  ·rename_i cells hg
   split at h
   ·rename_i hle
    cases h
    obtain ⟨L, e1, c, f1, f2, f3, f4⟩ := s.wr.blk id _ hg
    cases hp with
    | ptr e2 =>
     rw [e1] at e2
     cases e2
     rw [f2, Nat.zero_add]
     obtain ⟨w', r1, r2, r3, r4, r5, r6, r7⟩ := run_storeVar (P := P) (w := w) (O := off) hl hsz f1 (by rw [f3.1]; exact hle) hone
     obtain ⟨s', e'⟩ := s.turn (WR.put s.wr (blk' := .var (Go.AM.splice cells off x.cells)) hg e1 r3 r4 ⟨_, r2, f2, VRs.splice f3 k1 hle, one_splice f4 k2⟩ r5 r6 r7)
     exact ⟨_, w', rfl, r1, s', e'⟩
   ·cases h
  ·cases h
 ·rename_i id sz i j
  split at h
  ·rename_i sz' el hg
   split at h
   ·rename_i hszz
    subst hszz
    split at h
    ·rename_i e he
     split at h
     ·rename_i hle
      cases h
      obtain ⟨L, e1, c, f1, f2, f3, f4, f5⟩ := s.wr.blk id _ hg
      cases hp with
      | eptr e2 =>
       rw [e1] at e2
       cases e2
       obtain ⟨g1, g2, g3⟩ := f5 i e he
       have hi : i < el.length := by
        rcases Nat.lt_or_ge i el.length with h' | h'
        ·exact h'
        ·rw [List.getElem?_eq_none h'] at he; cases he
       have hrow : (i + 1) * sz <= el.length * sz := Nat.mul_le_mul_right _ hi
       rw [Nat.add_mul, Nat.one_mul] at hrow
       have hin : L.o + i * sz + j + x.cells.length <= c.size := by omega
       obtain ⟨w', r1, r2, r3, r4, r5, r6, r7⟩ := run_storeVar (P := P) (w := w) (O := L.o + i * sz + j) hl hsz f1 hin hone
       have hcells : (asElem (isAggV e) (Go.AM.splice e.cells j x.cells)).cells = Go.AM.splice e.cells j x.cells := by
        exact asElem_cells (splice_length hle) (one_splice g2 k2)
       have hbr : BR C w' L (.rw sz (el.set i (asElem (isAggV e) (Go.AM.splice e.cells j x.cells)))) := by
        refine ⟨_, r2, f2, by rw [setMany_size]; exact f3, by rw [setMany_size]; simpa using f4, fun i' e' he' => ?_⟩
        rw [List.getElem?_set] at he'
        have hul : xv.cells.toList.length = x.cells.length := by simpa using hsz
        by_cases hii : i = i'
        ·subst hii
         simp [hi] at he'
         subst he'
         rw [hcells]
         refine ⟨by rw [splice_length hle]; exact g1, one_splice g2 k2, fun j' y hy => ?_⟩
         rw [splice_get hle] at hy
         rw [setMany_get _ _ _ _ (by rw [hul]; exact hin), hul]
         by_cases hjj : j <= j' /\ j' < j + x.cells.length
         ·rw [if_pos hjj] at hy
          rw [if_pos (by omega)]
          obtain ⟨v, hv, hr⟩ := k1.get hy
          exact ⟨v, by rw [show L.o + i * sz + j' - (L.o + i * sz + j) = j' - j from by omega]; simpa using hv, hr⟩
         ·rw [if_neg hjj] at hy
          rw [if_neg (by omega)]
          exact g3 j' y hy
        ·rw [if_neg hii] at he'
         obtain ⟨q1, q2, q3⟩ := f5 i' e' he'
         refine ⟨q1, q2, fun j' y hy => ?_⟩
         have hj' : j' < sz := by
          rw [<- q1]
          rcases Nat.lt_or_ge j' e'.cells.length with h' | h'
          ·exact h'
          ·rw [List.getElem?_eq_none h'] at hy; cases hy
         rw [setMany_get _ _ _ _ (by rw [hul]; exact hin), hul, if_neg ?_]
         ·exact q3 j' y hy
         ·rcases Nat.lt_or_gt_of_ne hii with hlt | hgt
          ·have : (i + 1) * sz <= i' * sz := Nat.mul_le_mul_right _ hlt
           rw [Nat.add_mul, Nat.one_mul] at this
           omega
          ·have : (i' + 1) * sz <= i * sz := Nat.mul_le_mul_right _ hgt
           rw [Nat.add_mul, Nat.one_mul] at this
           omega
       obtain ⟨s', e'⟩ := s.turn (WR.put s.wr hg e1 r3 r4 hbr r5 r6 r7)
       exact ⟨_, w', rfl, r1, s', e'⟩
     ·cases h
    ·cases h
   ·cases h
  ·cases h
 ·cases h
theorem VRundef (C : Cfg) : VR C undefA undef := .tuple rfl (fun i hi => by simp at hi)
theorem St.storeE (s : St C lam ms F b a w cs) {o : Oper} {t : TypeId} {x y : Operand} {v : AV} {F' : Fr} (ho : o.op = .store t x y) (h : F.storeE P t x y = .val v F') : Eff P C lam ms F b a w cs o v F' := by
 unfold Fr.storeE at h
 split at h
 ·rename_i p q hp hq
  split at h
  ·rename_i ag n hl
   split at h
   ·rename_i hh
    obtain ⟨rfl, ht⟩ := hh
    split at h
    ·rename_i F1 hw
     cases h
     obtain ⟨A, w', e1, e2, e3, e4⟩ := s.write (P := P) (s.opd hp) hl (s.opv hq) ht hw
     refine ⟨C, lam, undef, w', .inr ⟨rfl, ?_⟩, SR.of (VRundef C), e3, e4, fun _ => rfl⟩
     simp [execOp, ho, Instr.storeAt, Instr.sureAddr, e1, e2]
    ·cases h
   ·cases h
  ·cases h
 ·cases h
end
end Go.AM
namespace Go.AM
open Go
variable [Keep]
section
variable {P : Program} {w w' : World} {C : Cfg} {lam : Nat -> Option Nat} {ms : List Nat} {F : Fr} {b : Frame} {a : Act} {cs : List Frame}
theorem FlatR.mono {C D : Cfg} (hle : C.le D) {m o : Nat} {elems : List AV} {c : Array Value} (h : FlatR C m elems c o) : FlatR D m elems c o := fun i e he => by
 obtain ⟨g1, g2, g3⟩ := h i e he
 exact ⟨g1, g2, fun j x hx => let ⟨v, hv, hr⟩ := g3 j x hx; ⟨v, hv, hr.mono hle⟩⟩
theorem St.newRow (s : St C lam ms F b a w cs) {o : Oper} {elems : List AV} {c : Array Value} {T : TypeId} {sz cap : Nat} (hf : FlatR C sz elems c 0) (hc : cap * sz <= c.size) (hl : elems.length <= cap)
  (hw : w'.heap = w.heap.push (.cells c T)) (hos : w'.os = w.os) (htp : w'.tape = w.tape) (hout : w'.output = w.output)
  (hr : Ran P a.eval o w (.slice (some ⟨w.heap.size, 0, none⟩) elems.length cap) w') : Eff P C lam ms F b a w cs o (.row F.hp.next 0 elems.length) { F with hp := F.hp.new (.rw sz elems) } := by
 let L : Loc := ⟨w.heap.size, 0, sz, c.size⟩
 have hle := muPush_le s.wr L
 have hmul : elems.length * sz <= cap * sz := Nat.mul_le_mul_right _ hl
 obtain ⟨s', e'⟩ := s.fresh (o := .cells c T) (blk := .rw sz elems) (L := L) hw hos htp hout rfl
  ⟨c, ⟨T, 0, 0, by rw [hw]; simp [L], .inl (Nat.le_refl _)⟩, rfl, rfl, by simp [L]; omega, hf.mono hle⟩
 exact ⟨_, _, _, _, hr, SR.of (VR.row (L := L) _ (by simp [muPush]) hl (.inr (by simp [L])) (by simp [L]; exact hc)), s', e', fun _ => rfl⟩
theorem St.rowE (s : St C lam ms F b a w cs) {o : Oper} {t : TypeId} {n : Nat} {ps : Array (Nat × Operand)} {v : AV} {F' : Fr} (ho : o.op = .buildSlice t n ps) (h : F.rowE P t n ps.toList = .val v F') : Eff P C lam ms F b a w cs o v F' := by
 unfold Fr.rowE at h
 split at h
 ·rename_i e l he hb
  cases h
  obtain ⟨c, e2, he2, hrun, hv⟩ := buildSlice_ok (P := P) s hb
  rw [he] at he2
  cases he2
  rcases hv with ⟨hv, _⟩ | ⟨elems, hv, hl, hf, hsz⟩
  ·cases hv
  ·cases hv
   refine s.newRow (w' := { w with heap := w.heap.push (.cells c e) }) (T := e) (cap := n) hf (by omega) (by omega) rfl rfl rfl rfl (.inl ?_)
   simp only [execOp, ho, Sem.run_bind, hrun, Result.andThen_ok, Sem.run_pure, hl]
 ·cases h
theorem St.mapE (s : St C lam ms F b a w cs) {o : Oper} {t : TypeId} {r : Option Operand} {v : AV} {F' : Fr} (ho : o.op = .makeMap t r) (h : F.mapE r = .val v F') : Eff P C lam ms F b a w cs o v F' := by
 unfold Fr.mapE at h
 split at h
 ·cases h
  let L : Loc := ⟨w.heap.size, 0, 0, 0⟩
  obtain ⟨s', e'⟩ := s.fresh (w' := { w with heap := w.heap.push (.map #[] 0) }) (o := .map #[] 0) (blk := .mp []) (L := L) rfl rfl rfl rfl rfl ⟨#[], 0, by simp [L], rfl, fun i k v h => by simp at h⟩
  refine ⟨_, _, _, _, .inl ?_, SR.of (VR.map (L := L) (by simp [muPush])), s', e', fun _ => rfl⟩
  simp [execOp, ho, Instr.makeMap, L]
 ·cases h
theorem wrap64 {n : Int} (h0 : 0 <= n) (h1 : n <= 16777216) : IntKind.i64.wrap n = n := by
 simp [IntKind.wrap, IntKind.bits, IntKind.signed]
 omega
theorem St.makeSliceE (s : St C lam ms F b a w cs) {o : Oper} {t : TypeId} {l c : Operand} {v : AV} {F' : Fr} (ho : o.op = .makeSlice t l c) (h : F.makeSliceE P t l c = .val v F') : Eff P C lam ms F b a w cs o v F' := by
 unfold Fr.makeSliceE at h
 split at h
 ·rename_i e k1 n k2 m he hl hc
  split at h
  ·rename_i z i hz hi
   split at h
   ·rename_i hh
    obtain ⟨h0, h1, h2, h3, h4, h5, h6⟩ := hh
    cases h
    obtain ⟨zv, z1, z2, i', hi', _⟩ := run_zero (P := P) (w := w) (C := C) hz
    have hs : (sizeOf e).run P w = .ok (szT P e) w := by simp [sizeOf, run_info hi, szT, hi]
    have el := (s.opv hl).int_inv
    have ec := (s.opv hc).int_inv
    simp only [most] at h2
    have hm : m <= 16777216 := h2
    have w1 := wrap64 h0 (by omega)
    have w2 := wrap64 (n := m) (by omega) hm
    have hbm : (i.bytes : Int) * m <= 281474976710656 := by
     have : (i.bytes : Int) * m <= 65536 * 16777216 := Int.mul_le_mul (by omega) hm (by omega) (by omega)
     omega
    have hf := FlatR.zeros (n := m.toNat) z2 h5 h4 h6
    have hf' : FlatR C (szT P e) (List.replicate n.toNat z) ((Array.range (m.toNat * szT P e)).map (zv.cells[· % zv.cells.size]!)) 0 := fun i' e' he' => by
     refine hf i' e' ?_
     rw [List.getElem?_replicate] at he' ⊢
     split at he'
     ·rw [if_pos (by omega)]; exact he'
     ·cases he'
    have hlen : (List.replicate n.toNat z).length = n.toNat := by simp
    have := s.newRow (P := P) (o := o) (w' := { w with heap := w.heap.push (.cells ((Array.range (m.toNat * szT P e)).map (zv.cells[· % zv.cells.size]!)) e) }) (T := e) (cap := m.toNat) hf' (by simp) (by simp; omega) rfl rfl rfl rfl (by
     rw [hlen]
     refine .inl ?_
     have t1 : ¬ (m < 0) := by omega
     have t2 : ¬ (281474976710656 < (i.bytes : Int) * m) := by omega
     have t3 : ¬ (n < 0) := by omega
     have t4 : ¬ (m < n) := by omega
     have hai : ∀ k n, (asInt (.int k n)).run P w = .ok n w := fun k n => by simp [asInt, asIntOf]
     simp only [execOp, ho, Instr.makeSlice, Sem.run_bind, run_und (elemT_und he), Result.andThen_ok, el, ec, hai, Sem.run_pure, run_info hi, w1, w2]
     simp only [t1, t2, t3, t4, decide_false, Bool.or_false, Bool.or_self, Bool.false_eq_true, if_false, Int.reducePow, gt_iff_lt, run_askRoom, Sem.run_bind, Result.andThen_ok, hs]
     by_cases hz0 : m.toNat * szT P e = 0
     ·have hm0 : m.toNat = 0 := by rcases Nat.mul_eq_zero.1 hz0 with h | h; exact h; exact absurd h h6
      simp [hm0, Go.newRow, show Array.range 0 = #[] from rfl]
     ·simp only [hz0, if_false, Sem.run_bind, z1, Result.andThen_ok, Sem.run_pure]
      simp [Go.newRow])
    rw [hlen] at this
    exact this
   ·cases h
  ·cases h
 ·cases h
theorem St.rangeE (s : St C lam ms F b a w cs) {o : Oper} {t : TypeId} {x : Operand} {v : AV} {F' : Fr} (ho : o.op = .range t x) (h : F.rangeE P t x = .val v F') : Eff P C lam ms F b a w cs o v F' := by
 unfold Fr.rangeE at h
 split at h
 ·rename_i st hu hx
  cases h
  let L : Loc := ⟨w.heap.size, 0, 0, 0⟩
  have ex := (s.opv hx).str_inv
  obtain ⟨s', e'⟩ := s.fresh (w' := { w with heap := w.heap.push (.stringIter ⟨⟨st⟩⟩ 0) }) (o := .stringIter ⟨⟨st⟩⟩ 0) (blk := .iter st 0) (L := L) rfl rfl rfl rfl rfl ⟨by simp [L], rfl⟩
  refine ⟨_, _, _, _, .inl ?_, SR.of (VR.ptr (L := L) (by simp [muPush])), s', e', fun _ => rfl⟩
  simp [execOp, ho, Instr.range, run_und hu, ex, L]
 ·cases h
theorem run_getObj {r : Nat} {o : Obj} (h : w.heap[r]? = some o) (hc : ∀ c T f, o ≠ .cells c T f) : (getObj r).run P w = .ok o w := by
 cases o <;> simp_all [getObj, Sem.run]
theorem run_setObj {r : Nat} {o o' : Obj} (h : w.heap[r]? = some o) (hc : ∀ c T f, o ≠ .cells c T f) : (setObj r o').run P w = .ok () { w with heap := w.heap.setIfInBounds r o' } := by
 cases o <;> simp_all [setObj, Sem.run]
theorem heap_set_same {r : Nat} {o o' : Obj} (h : w.heap[r]? = some o) : (w.heap.setIfInBounds r o')[r]? = some o' := by
 have : r < w.heap.size := by
  rcases Nat.lt_or_ge r w.heap.size with h' | h'
  ·exact h'
  ·rw [Array.getElem?_eq_none h'] at h; cases h
 simp [this]
theorem heap_set_other {r β : Nat} {o' : Obj} (h : β ≠ r) : (w.heap.setIfInBounds r o')[β]? = w.heap[β]? := by
 rw [Array.getElem?_setIfInBounds, if_neg (fun e => h e.symm)]
theorem tuple3 {x y z : AV} {u v t : Value} (h : VR C x u) (k : VR C y v) (l : VR C z t) : VR C (.tuple [x, y, z]) (.tuple #[u, v, t]) := by
 refine .tuple rfl fun i hi => ?_
 simp at hi
 match i, hi with
 | 0, _ => exact h
 | 1, _ => exact k
 | 2, _ => exact l
theorem tuple1 {x : AV} {u : Value} (h : VR C x u) : VR C (.tuple [x]) (.tuple #[u]) := by
 refine .tuple rfl fun i hi => ?_
 simp at hi
 subst hi
 exact h
theorem St.nextE (s : St C lam ms F b a w cs) {o : Oper} {x : Operand} {st : Bool} {v : AV} {F' : Fr} (ho : o.op = .next x st) (h : F.nextE x st = .val v F') : Eff P C lam ms F b a w cs o v F' := by
 unfold Fr.nextE at h
 split at h
 ·rename_i id hx
  split at h
  ·rename_i str pos hg
   obtain ⟨L, e1, f1, f2⟩ := s.wr.blk id _ hg
   have hp := s.opv hx
   generalize hv0 : a.eval x = pv at hp
   cases hp with
   | ptr e2 =>
    rw [e1] at e2
    cases e2
    have hgo := run_getObj (P := P) f1 (fun _ _ _ h => by cases h)
    split at h
    ·rename_i hlt
     cases h
     have hd : Utf8.decode ⟨str.toArray⟩ pos = Utf8.decode ⟨⟨str⟩⟩ pos := rfl
     obtain ⟨s', e'⟩ := s.turn (WR.put s.wr (w' := { w with heap := w.heap.setIfInBounds L.b (.stringIter ⟨⟨str⟩⟩ (pos + (Utf8.decode ⟨⟨str⟩⟩ pos).2)) }) (blk' := .iter str (pos + (Utf8.decode ⟨⟨str⟩⟩ pos).2)) hg e1 (by simp) (fun β hb => heap_set_other hb) ⟨heap_set_same f1, f2⟩ rfl rfl rfl)
     refine ⟨_, _, _, _, .inl ?_, SR.of (tuple3 (.bool true) (.int .i64 _) (.int .i32 _)), s', e', fun _ => rfl⟩
     have hsz : pos < ByteArray.size ⟨⟨str⟩⟩ := hlt
     simp only [execOp, ho, hv0, f2, Instr.next, Nat.add_zero, Sem.run_bind, hgo, Result.andThen_ok, hsz, if_true]
     simp only [Sem.run_bind, run_setObj f1 (fun _ _ _ h => by cases h), Result.andThen_ok, Sem.run_pure, goInt]
    ·rename_i hlt
     cases h
     refine ⟨C, lam, _, w, .inl ?_, SR.of (tuple1 (.bool false)), s, .refl _ _ _ _, fun _ => rfl⟩
     have hsz : ¬ pos < ByteArray.size ⟨⟨str⟩⟩ := hlt
     simp only [execOp, ho, hv0, f2, Instr.next, Nat.add_zero, Sem.run_bind, hgo, Result.andThen_ok, hsz, if_false, Sem.run_pure]
  ·cases h
 ·cases h
mutual
theorem AV.same_eq : ∀ (x y : AV), AV.same x y = true -> x = y := by
 intro x y h
 cases x <;> cases y <;> simp only [AV.same, Bool.and_eq_true, beq_iff_eq, Bool.false_eq_true] at h
 all_goals first
  | rfl
  | (rw [h])
  | (rw [h.1, h.2])
  | (rw [AV.sameL_eq _ _ h])
  | (rw [h.1, AV.same_eq _ _ h.2])
  | (rw [h.1.1, h.1.2, h.2])
  | (rw [h.1.1, AV.sameL_eq _ _ h.1.2, AV.sameL_eq _ _ h.2])
  | (rw [h.1.1.1, h.1.1.2, h.1.2, h.2])
theorem AV.sameL_eq : ∀ (x y : List AV), AV.sameL x y = true -> x = y := by
 intro x y h
 cases x <;> cases y <;> simp only [AV.sameL, Bool.and_eq_true, Bool.false_eq_true] at h
 ·rfl
 ·rw [AV.same_eq _ _ h.1, AV.sameL_eq _ _ h.2]
end
theorem keyThatStays_ok (old new : Value) : ∃ k w1, (Instr.keyThatStays old new).run P w = .ok k w1 /\ (k = old \/ k = new) /\ w1.heap = w.heap /\ w1.os = w.os /\ w1.tape = w.tape /\ w1.output = w.output := by
 unfold Instr.keyThatStays
 split
 ·exact ⟨new, w, rfl, .inr rfl, rfl, rfl, rfl, rfl⟩
 ·simp only [Sem.run_bind, run_choose]
  split
  ·exact ⟨_, _, rfl, .inr (by simp), rfl, rfl, rfl, rfl⟩
  ·refine ⟨_, _, rfl, ?_, rfl, rfl, rfl, rfl⟩
   split
   ·exact .inr rfl
   ·exact .inl rfl
theorem mapPut_ok {kt : TypeId} {x v : AV} : ∀ (es es' : List (AV × AV)) (i : Nat), mapPut P kt x v es = some es' ->
  (findI P kt x es i = some none /\ es' = es ++ [(x, v)]) \/ ∃ j u, findI P kt x es i = some (some (i + j, u)) /\ es' = es.set j (x, v) /\ es[j]? = some (x, u) := by
 intro es
 induction es with
 | nil => intro es' i h; simp [mapPut] at h; subst h; exact .inl ⟨rfl, rfl⟩
 | cons e es ih =>
  intro es' i h
  obtain ⟨k, u⟩ := e
  simp only [mapPut] at h
  simp only [findI]
  split at h
  ·rename_i he
   split at h
   ·rename_i hs
    cases h
    have := AV.same_eq _ _ hs
    subst this
    exact .inr ⟨0, u, by simp [he], rfl, rfl⟩
   ·cases h
  ·rename_i he
   split at h
   ·rename_i l hl
    cases h
    rcases ih l (i + 1) hl with ⟨h1, rfl⟩ | ⟨j, u', h1, rfl, h3⟩
    ·exact .inl ⟨by simp [he, h1], rfl⟩
    ·exact .inr ⟨j + 1, u', by simp only [he, h1]; rw [show i + 1 + j = i + (j + 1) from by omega], rfl, by simpa using h3⟩
   ·cases h
  ·cases h
theorem St.mapUpdateE (s : St C lam ms F b a w cs) {o : Oper} {t : TypeId} {m k x : Operand} {v : AV} {F' : Fr} (ho : o.op = .mapUpdate t m k x) (h : F.mapUpdateE P t m k x = .val v F') : Eff P C lam ms F b a w cs o v F' := by
 unfold Fr.mapUpdateE at h
 split at h
 ·rename_i kt et id kv xv hu hm hk hx
  split at h
  ·rename_i hkey
   split at h
   ·rename_i es hg
    split at h
    ·rename_i es' hput
     cases h
     have rk := s.opv hk
     have rx := s.opv hx
     obtain ⟨L, e1, ces, clock, f1, f2, f3⟩ := s.wr.blk id _ hg
     have hp := s.opv hm
     generalize hv0 : a.eval m = pv at hp
     cases hp with
     | map e2 =>
      rw [e1] at e2
      cases e2
      have hER : EntR C es ces.toList := ⟨by simpa using f2, fun i k v hi => by simpa using f3 i k v hi⟩
      have hgo := run_getObj (P := P) f1 (fun _ _ _ h => by cases h)
      have hck := keyOf_ok (P := P) (w := w) hkey rk false
      rcases mapPut_ok es es' 0 hput with ⟨h1, rfl⟩ | ⟨j, u, h1, rfl, h3⟩
      ·obtain ⟨rc, g1, g2⟩ := findKey_ok (P := P) (w := w) (keyOf_und hkey) rk hER h1
       cases rc with
       | some rc => exact g2.elim
       | none =>
        obtain ⟨s', e'⟩ := s.turn (WR.put s.wr (w' := { w with heap := w.heap.setIfInBounds L.b (.map (ces.push { key := a.eval k, val := a.eval x, born := clock }) (clock + 1)) }) (blk' := .mp (es ++ [(kv, xv)])) hg e1 (by simp) (fun β hb => heap_set_other hb)
         ⟨_, _, heap_set_same f1, by simp [f2], fun i k' v' hi => by
          rw [List.getElem?_append] at hi
          split at hi
          ·rename_i hlt
           obtain ⟨e, he, r⟩ := f3 i k' v' hi
           exact ⟨e, by rw [Array.getElem?_push, if_neg (by omega)]; exact he, r⟩
          ·rename_i hlt
           have : i = es.length := by
            rcases Nat.lt_or_ge (i - es.length) 1 with h' | h'
            ·omega
            ·rw [List.getElem?_eq_none (by simpa using h')] at hi; cases hi
           subst this
           simp at hi
           obtain ⟨rfl, rfl⟩ := hi
           exact ⟨_, by rw [<- f2]; simp; rfl, rk, rx⟩⟩ rfl rfl rfl)
        refine ⟨_, _, _, _, .inr ⟨rfl, ?_⟩, SR.of (VRundef C), s', e', fun _ => rfl⟩
        simp only [execOp, ho, hv0, Instr.mapUpdate, Sem.run_bind, run_und hu, Result.andThen_ok, hgo, hck, g1, run_setObj f1 (fun _ _ _ h => by cases h), Sem.run_pure]
      ·obtain ⟨rc, g1, g2⟩ := findKey_ok (P := P) (w := w) (keyOf_und hkey) rk hER h1
       cases rc with
       | none => exact g2.elim
       | some rc =>
        obtain ⟨i, uv⟩ := rc
        obtain ⟨rfl, _⟩ := g2
        rw [Nat.zero_add] at g1
        obtain ⟨e0, he0, r0, _⟩ := f3 j kv u h3
        obtain ⟨k1, w1, q1, q2, q3, q4, q5, q6⟩ := keyThatStays_ok (P := P) (w := w) (((ces[j]?).map (·.key)).getD (a.eval k)) (a.eval k)
        have rk1 : VR C kv k1 := by
         rcases q2 with rfl | rfl
         ·rw [he0]; exact r0
         ·exact rk
        have f1' : w1.heap[L.b]? = some (.map ces clock) := by rw [q3]; exact f1
        obtain ⟨s', e'⟩ := s.turn (WR.put s.wr (w' := { w1 with heap := w1.heap.setIfInBounds L.b (.map (ces.modify j fun e => { e with key := k1, val := a.eval x }) clock) }) (blk' := .mp (es.set j (kv, xv))) hg e1 (by simp [q3]) (fun β hb => by rw [heap_set_other hb, q3])
         ⟨_, _, heap_set_same f1', by simp [f2], fun i k' v' hi => by
          rw [List.getElem?_set] at hi
          rw [Array.getElem?_modify]
          by_cases hij : j = i
          ·subst hij
           rw [if_pos rfl] at hi
           split at hi
           ·cases hi
            exact ⟨_, by rw [if_pos rfl, he0]; rfl, rk1, rx⟩
           ·cases hi
          ·rw [if_neg hij] at hi ⊢
           exact f3 i k' v' hi⟩ q4 q5 q6)
        refine ⟨_, _, _, _, .inr ⟨rfl, ?_⟩, SR.of (VRundef C), s', e', fun _ => rfl⟩
        simp only [execOp, ho, hv0, Instr.mapUpdate, Sem.run_bind, run_und hu, Result.andThen_ok, hgo, hck, g1, q1, run_setObj f1' (fun _ _ _ h => by cases h), Sem.run_pure]
    ·cases h
   ·cases h
  ·cases h
 ·cases h
end
end Go.AM
namespace Go.AM
open Go
variable [Keep]
def flat (l : List AV) : List AV := l.flatMap AV.cells
theorem flat_append (l r : List AV) : flat (l ++ r) = flat l ++ flat r := by simp [flat]
theorem flat_cons (e : AV) (l : List AV) : flat (e :: l) = e.cells ++ flat l := rfl
theorem flat_length {m : Nat} : ∀ {l : List AV}, (∀ e ∈ l, e.cells.length = m) -> (flat l).length = l.length * m := by
 intro l
 induction l with
 | nil => intro _; simp [flat]
 | cons e l ih =>
  intro h
  rw [flat_cons, List.length_append, h e (by simp), ih (fun e he => h e (by simp [he])), List.length_cons, Nat.add_mul]
  omega
theorem flat_get {m : Nat} : ∀ {l : List AV} {i j : Nat} {e x : AV}, (∀ e ∈ l, e.cells.length = m) -> l[i]? = some e -> e.cells[j]? = some x -> (flat l)[i * m + j]? = some x := by
 intro l
 induction l with
 | nil => intro i j e x _ h; simp at h
 | cons e0 l ih =>
  intro i j e x h hi hj
  rw [flat_cons]
  have h0 := h e0 (by simp)
  cases i with
  | zero =>
   simp at hi
   subst hi
   have hlt : j < e0.cells.length := by
    rcases Nat.lt_or_ge j e0.cells.length with h' | h'
    ·exact h'
    ·rw [List.getElem?_eq_none h'] at hj; cases hj
   rw [Nat.zero_mul, Nat.zero_add, List.getElem?_append_left hlt]
   exact hj
  | succ i =>
   have := ih (fun e he => h e (by simp [he])) (by simpa using hi) hj
   rw [List.getElem?_append_right (by rw [h0, Nat.add_mul]; omega), h0, show (i + 1) * m + j - m = i * m + j from by rw [Nat.add_mul]; omega]
   exact this
theorem flat_inv {m : Nat} : ∀ {l : List AV} {k : Nat} {x : AV}, (∀ e ∈ l, e.cells.length = m) -> (flat l)[k]? = some x -> ∃ i j e, l[i]? = some e /\ e.cells[j]? = some x /\ k = i * m + j := by
 intro l
 induction l with
 | nil => intro k x _ h; simp [flat] at h
 | cons e0 l ih =>
  intro k x h hk
  rw [flat_cons] at hk
  have h0 := h e0 (by simp)
  rcases Nat.lt_or_ge k e0.cells.length with hlt | hge
  ·rw [List.getElem?_append_left hlt] at hk
   exact ⟨0, k, e0, rfl, hk, by omega⟩
  ·rw [List.getElem?_append_right hge] at hk
   obtain ⟨i, j, e, h1, h2, h3⟩ := ih (fun e he => h e (by simp [he])) hk
   exact ⟨i + 1, j, e, by simpa using h1, h2, by rw [Nat.add_mul]; omega⟩
theorem mem_flat {l : List AV} {x : AV} (h : x ∈ flat l) : ∃ e ∈ l, x ∈ e.cells := by simpa [flat] using h
section
variable {P : Program} {w w' : World} {C : Cfg} {lam : Nat -> Option Nat} {ms : List Nat} {F : Fr} {b : Frame} {a : Act} {cs : List Frame}
theorem FlatR.of_flat {m o : Nat} {l : List AV} {c1 c : Array Value} (h : ∀ e ∈ l, e.cells.length = m) (h1 : ∀ e ∈ l, ∀ x ∈ e.cells, x.one = true) (r : VRs C (flat l) c1) (hc : ∀ (k : Nat) (v : Value), c1[k]? = some v -> c[o + k]? = some v) : FlatR C m l c o := fun i e he => by
 have hm := List.mem_of_getElem? he
 refine ⟨h e hm, h1 e hm, fun j x hx => ?_⟩
 obtain ⟨v, hv, hr⟩ := r.get (flat_get h he hx)
 exact ⟨v, by rw [Nat.add_assoc]; exact hc _ _ hv, hr⟩
structure ElemsR (P : Program) (C : Cfg) (w : World) (m : Nat) (l : List AV) (y : Value) : Prop where
 len : (Builtin.lenOf y).run P w = .ok l.length w
 read : ∀ w1 : World, w1.heap = w.heap -> ∃ c, VRs C (flat l) c /\ (Builtin.firstCells m l.length y).run P w1 = .ok c w1
 one : ∀ e ∈ l, ∀ x ∈ e.cells, x.one = true
theorem cell_heap {w w1 : World} (h : w1.heap = w.heap) (x : Addr) : w1.cell? x = w.cell? x := by simp [World.cell?, h]
theorem ElemsR.empty {m cap : Nat} (p : Option Addr) : ElemsR P C w m [] (.slice p 0 cap) := by
 refine ⟨rfl, fun w1 _ => ⟨#[], VRs.nil C, ?_⟩, by simp⟩
 cases p <;> simp [Builtin.firstCells, loadCells, loadCellsFrom]
theorem ElemsR.slice {l : List AV} {m B O cap : Nat} (hm : ∀ e ∈ l, e.cells.length = m) (h1 : ∀ e ∈ l, ∀ x ∈ e.cells, x.one = true)
  (h : ∀ (i j : Nat) (e x : AV), l[i]? = some e -> e.cells[j]? = some x -> ∃ v, w.cell? ⟨B, O + i * m + j, none⟩ = some v /\ VR C x v) : ElemsR P C w m l (.slice (some ⟨B, O, none⟩) l.length cap) := by
 have key : ∀ w1 : World, w1.heap = w.heap -> ∀ (k : Nat) (x : AV), k < l.length * m -> (flat l)[k]? = some x -> ∃ v, w1.cell? ⟨B, O + k, none⟩ = some v /\ VR C x v := fun w1 hw k x _ hk => by
  obtain ⟨i, j, e, h2, h3, rfl⟩ := flat_inv hm hk
  obtain ⟨v, hv, hr⟩ := h i j e x h2 h3
  exact ⟨v, by rw [cell_heap hw, <- Nat.add_assoc]; exact hv, hr⟩
 have hlen := flat_length hm
 refine ⟨rfl, fun w1 hw => ?_, h1⟩
 obtain ⟨c, hc, hr⟩ := run_loadCells (P := P) (key w1 hw) (by omega)
 rw [<- hlen, List.take_length] at hr
 exact ⟨c, hr, by simpa [Builtin.firstCells, <- hlen] using hc⟩
theorem St.elems (s : St C lam ms F b a w cs) {y : AV} {yv : Value} {l : List AV} {m : Nat} (r : VR C y yv) (h : F.hp.elems y = some l) (hm : ∀ e ∈ l, e.cells.length = m) : ElemsR P C w m l yv := by
 unfold Heap.elems at h
 split at h
 ·cases h; cases r; exact .empty _
 ·cases h; cases r; exact .empty _
 ·have h := (Option.some.inj h).symm
  subst h
  cases r with
  | vslice0 => exact .empty _
  | vslice vs k1 k2 k3 k4 k5 =>
   rename_i sz b' o' cap
   refine .slice hm k5 fun i j e x hi hj => ?_
   have hlt : i < l.length := by
    rcases Nat.lt_or_ge i l.length with h' | h'
    ·exact h'
    ·rw [List.getElem?_eq_none h'] at hi; cases hi
   have he := List.mem_of_getElem? hi
   have hjl : j < e.cells.length := by
    rcases Nat.lt_or_ge j e.cells.length with h' | h'
    ·exact h'
    ·rw [List.getElem?_eq_none h'] at hj; cases hj
   have e1 : sz = m := (k2 e he).symm.trans (hm e he)
   subst e1
   have hs := s.wr.sig _ _ (k3 i j hlt (by rw [<- hm e he]; exact hjl))
   have hv := k4 i j hlt (by rw [<- hm e he]; exact hjl)
   refine ⟨_, hs, ?_⟩
   have g1 : l.getD i .junk = e := by simp [List.getD, hi]
   rw [g1] at hv
   have g2 : e.cells.getD j .junk = x := by simp [List.getD, hj]
   rw [g2] at hv
   exact hv
 ·rename_i id off len
  split at h
  ·rename_i sz el hg
   split at h
   ·rename_i hle
    cases h
    obtain ⟨L, e1, c, f1, f2, f3, f4, f5⟩ := s.wr.blk id _ hg
    cases r with
    | row A e2 k1 k2 k3 =>
     rw [e1] at e2
     cases e2
     rename_i cap
     have hlen : ((el.drop off).take len).length = len := by simp; omega
     rcases k2 with rfl | rfl
     ·have : len = 0 := by omega
      subst this
      exact .empty _
     ·have := ElemsR.slice (P := P) (C := C) (w := w) (l := (el.drop off).take len) (m := m) (B := L.b) (O := L.o + off * L.sz) (cap := cap) hm (fun e he => (by
        obtain ⟨i, hi⟩ := List.mem_iff_getElem?.1 (List.mem_of_mem_drop (List.mem_of_mem_take he))
        exact (f5 i e hi).2.1)) (fun i j e x hi hj => by
        rw [List.getElem?_take] at hi
        split at hi
        ·rename_i hlt
         rw [List.getElem?_drop] at hi
         obtain ⟨q1, q2, q3⟩ := f5 (off + i) e hi
         obtain ⟨v, hv, hr⟩ := q3 j x hj
         have hmsz : m = sz := by
          rw [<- q1]
          refine (hm e ?_).symm
          exact List.mem_of_getElem? (i := i) (by rw [List.getElem?_take, if_pos hlt, List.getElem?_drop]; exact hi)
         refine ⟨v, (f1.cell _).trans ?_, hr⟩
         rw [<- hv, f2, hmsz, Nat.add_mul]
         congr 1
         omega
        ·cases hi)
      rw [hlen] at this
      exact this
   ·cases h
  ·cases h
 ·cases h
theorem ElemsR.str (s : List UInt8) : ElemsR P C w 1 (s.map fun b => .int .u8 b.toNat) (.string ⟨⟨s⟩⟩) := by
 have hsz : ByteArray.size ⟨⟨s⟩⟩ = s.length := rfl
 have hfl : ∀ s : List UInt8, flat (s.map fun b => AV.int .u8 b.toNat) = s.map fun b => AV.int .u8 b.toNat := by
  intro s
  induction s with
  | nil => rfl
  | cons x s ih => rw [List.map_cons, flat_cons, ih]; rfl
 refine ⟨by simp [Builtin.lenOf, hsz], fun w1 _ => ⟨(s.map fun b => Value.int .u8 b.toNat).toArray, ?_, ?_⟩, fun e he x hx => ?_⟩
 ·rw [hfl]
  refine VRs.of_get (by simp) fun i x hx => ?_
  rw [List.getElem?_map] at hx
  cases hi : s[i]? with
  | none => rw [hi] at hx; cases hx
  | some b =>
   rw [hi] at hx
   cases hx
   exact ⟨.int .u8 b.toNat, by simp [hi], .int _ _⟩
 ·have hx : (ByteArray.extract ⟨⟨s⟩⟩ 0 s.length) = ⟨⟨s⟩⟩ := by rw [bytes_extract]; simp
  simp [Builtin.firstCells, hx]
 ·obtain ⟨b, _, rfl⟩ := List.mem_map.1 he
  simp [AV.cells] at hx
  subst hx
  rfl
theorem run_append_none' {ts : Array TypeId} {t u ty e : TypeId} {i : TypeInfo} (h0 : ts[0]? = some t) (h1 : ts[1]? = some u) (ht : P.underlying t = some (.slice e)) (hu : P.underlying u = some .string \/ ∃ e', P.underlying u = some (.slice e'))
  (hi : P.info? e = some i) {base : Option Addr} {sLen sCap : Nat} {y : Value} (hn : (Builtin.lenOf y).run P w = .ok 0 w) (hnew : (Builtin.firstCells i.size 0 y).run P w = .ok #[] w) (hle : sLen <= sCap) :
  (Builtin.append_ ts ty #[.slice base sLen sCap, y]).run P w = .ok (.slice base sLen sCap) w := by
 rcases hu with hu | ⟨e', hu⟩ <;> cases base <;> simp [Builtin.append_, h0, h1, run_und ht, run_und hu, sizeOf, run_info hi, hn, hle, hnew, storeCells]
theorem run_append_grow' {ts : Array TypeId} {t u ty e : TypeId} {i : TypeInfo} {z : Value} (h0 : ts[0]? = some t) (h1 : ts[1]? = some u) (ht : P.underlying t = some (.slice e)) (hu : P.underlying u = some .string \/ ∃ e', P.underlying u = some (.slice e'))
  (hi : P.info? e = some i) (hz : i.zero = some z) {base : Option Addr} {sLen sCap n : Nat} {y : Value} {olds news : Array Value} (hn : (Builtin.lenOf y).run P w = .ok n w)
  (hold : (Builtin.firstCells i.size sLen (.slice base sLen sCap)).run P w.drew = .ok olds w.drew) (hnew : (Builtin.firstCells i.size n y).run P w.drew = .ok news w.drew)
  (hg : sCap < sLen + n) (h63 : ((sLen + n : Nat) : Int) <= 9223372036854775807) (hfit : Builtin.nextslicecap (sLen + n) sCap * i.bytes <= 281474976710656) :
  (Builtin.append_ ts ty #[.slice base sLen sCap, y]).run P w =
   .ok (.slice (some ⟨w.heap.size, 0, none⟩) (sLen + n) (grownCap w (sLen + n) sCap e))
    (w.drew.alloc (.cells (olds ++ news ++ Builtin.zeroCells z.cells (grownCap w (sLen + n) sCap e - (sLen + n))) e)) := by
 have hn' : ¬ (sLen + n <= sCap) := by omega
 have h63' : ¬ (9223372036854775807 < ((sLen : Int) + (n : Int))) := by omega
 have h48' : ¬ (281474976710656 < Builtin.nextslicecap (sLen + n) sCap * i.bytes) := by omega
 rcases hu with hu | ⟨e', hu⟩ <;> simp [Builtin.append_, h0, h1, run_und ht, run_und hu, sizeOf, zeroValue, run_info hi, hz, hn, hn', h63', h48', Question.forced, hold, hnew, Go.newRow, grownCap]
theorem run_append_fits' {ts : Array TypeId} {t u ty e : TypeId} {i : TypeInfo} (h0 : ts[0]? = some t) (h1 : ts[1]? = some u) (ht : P.underlying t = some (.slice e)) (hu : P.underlying u = some .string \/ ∃ e', P.underlying u = some (.slice e'))
  (hi : P.info? e = some i) {A : Addr} {sLen sCap n : Nat} {y : Value} {news : Array Value} {w1 : World} (hn : (Builtin.lenOf y).run P w = .ok n w)
  (hnew : (Builtin.firstCells i.size n y).run P w = .ok news w) (hg : sLen + n <= sCap) (hst : (storeCells (A.add (sLen * i.size)) news.toList).run P w = .ok () w1) :
  (Builtin.append_ ts ty #[.slice (some A) sLen sCap, y]).run P w = .ok (.slice (some A) (sLen + n) sCap) w1 := by
 rcases hu with hu | ⟨e', hu⟩ <;> simp [Builtin.append_, h0, h1, run_und ht, run_und hu, sizeOf, run_info hi, hn, hg, hnew, hst]
end
end Go.AM
