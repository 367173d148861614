/-
  A part of the proof: contracts of functions.
-/
import Derived.Test.YtlhcjccaimmhgaaGreatDoorVAC
import Derived.RangeFuncIn
import Derived.Defers
import Derived.RangeFuncLeaves
set_option linter.unusedSimpArgs false
set_option linter.unusedVariables false
set_option linter.unusedSectionVars false
namespace Go.AM
open Go
variable [Keep]
section
variable {P : Program} {w w' : World} {C : Cfg} {lam : Nat -> Option Nat} {ms : List Nat} {F : Fr} {b : Frame} {a : Act} {cs : List Frame}
theorem lt_of_get {α : Type} {l : List α} {i : Nat} {x : α} (h : l[i]? = some x) : i < l.length := by
 rcases Nat.lt_or_ge i l.length with h' | h'
 ·exact h'
 ·rw [List.getElem?_eq_none h'] at h; cases h
theorem FlatR.append {m o : Nat} {l r : List AV} {c : Array Value} (h : FlatR C m l c o) (k : FlatR C m r c (o + l.length * m)) : FlatR C m (l ++ r) c o := fun i e he => by
 rw [List.getElem?_append] at he
 split at he
 ·exact h i e he
 ·rename_i hge
  obtain ⟨g1, g2, g3⟩ := k (i - l.length) e he
  refine ⟨g1, g2, fun j x hx => ?_⟩
  obtain ⟨v, hv, hr⟩ := g3 j x hx
  refine ⟨v, ?_, hr⟩
  rw [<- hv]
  congr 1
  have : l.length * m + (i - l.length) * m = i * m := by rw [<- Nat.add_mul]; congr 1; omega
  omega
def isSliceA : AV -> Bool | .nilslice | .vempty | .vslice _ | .row _ _ _ => true | _ => false
theorem slice_form {x : AV} {v : Value} (h : isSliceA x = true) (r : VR C x v) : ∃ p n cap, v = .slice p n cap /\ n <= cap := by
 cases r <;> simp [isSliceA] at h
 ·exact ⟨_, _, _, rfl, Nat.le_refl _⟩
 ·exact ⟨_, _, _, rfl, ‹_›⟩
 ·exact ⟨_, _, _, rfl, Nat.zero_le _⟩
 ·exact ⟨_, _, _, rfl, Nat.le_refl _⟩
 ·exact ⟨_, _, _, rfl, ‹_›⟩
theorem rowable_ok {e : TypeId} (h : rowable P e = true) : szT P e ≠ 0 /\ ∃ i z, P.info? e = some i /\ i.bytes <= 65536 /\ zeroT P e = some z /\ z.cells.length = szT P e /\ isTuple z = false := by
 unfold rowable at h
 simp only [Bool.and_eq_true, bne_iff_ne, ne_eq] at h
 obtain ⟨⟨h1, h2⟩, h3⟩ := h
 refine ⟨h1, ?_⟩
 split at h2
 ·rename_i i hi
  split at h3
  ·rename_i z hz
   simp at h2 h3
   exact ⟨i, z, hi, h2, hz, h3.1, h3.2⟩
  ·cases h3
 ·cases h2
theorem St.grown (s : St C lam ms F b a w cs) {elems : List AV} {olds news rest : Array Value} {T : TypeId} {sz cap : Nat} (hm : ∀ e ∈ elems, e.cells.length = sz) (h1 : ∀ e ∈ elems, ∀ x ∈ e.cells, x.one = true)
  (hr : VRs C (flat elems) (olds ++ news)) (hc : (olds ++ news ++ rest).size = cap * sz) (hl : elems.length <= cap) :
  ∃ C', SR C' lam F.lm (.row F.hp.next 0 elems.length) (.slice (some ⟨w.heap.size, 0, none⟩) elems.length cap) /\
   St C' lam ms { F with hp := F.hp.new (.rw sz elems) } b a (w.drew.alloc (.cells (olds ++ news ++ rest) T)) cs /\
   Ext C F.hp (Own lam ms) w C' (F.hp.new (.rw sz elems)) (Own lam ms) (w.drew.alloc (.cells (olds ++ news ++ rest) T)) := by
 let L : Loc := ⟨w.heap.size, 0, sz, (olds ++ news ++ rest).size⟩
 have hle := muPush_le s.wr L
 have hmul : elems.length * sz <= cap * sz := Nat.mul_le_mul_right _ hl
 have hf : FlatR C sz elems (olds ++ news ++ rest) 0 := FlatR.of_flat hm h1 hr fun k v hv => by
  rw [Nat.zero_add]
  have hlt : k < (olds ++ news).size := by
   rcases Nat.lt_or_ge k (olds ++ news).size with h' | h'
   ·exact h'
   ·rw [Array.getElem?_eq_none h'] at hv; cases hv
  rw [Array.getElem?_append_left hlt]
  exact hv
 obtain ⟨s', e'⟩ := s.fresh (w' := w.drew.alloc (.cells (olds ++ news ++ rest) T)) (o := .cells (olds ++ news ++ rest) T) (blk := .rw sz elems) (L := L) rfl rfl rfl rfl rfl
  ⟨olds ++ news ++ rest, ⟨T, 0, 0, by show (w.heap.push _)[w.heap.size]? = _; simp, .inl (Nat.le_refl _)⟩, rfl, rfl, by show 0 + elems.length * sz <= (olds ++ news ++ rest).size; omega, hf.mono hle⟩
 exact ⟨_, SR.of (VR.row (L := L) _ (by simp [muPush]) hl (.inr (by simp [L])) (by show 0 + (0 + cap) * sz <= (olds ++ news ++ rest).size; rw [Nat.zero_add, Nat.zero_add]; omega)), s', e'⟩
theorem St.appendV (s : St C lam ms F b a w cs) {ts : Array TypeId} {t u ty : TypeId} {x v : AV} {new : List AV} {F' : Fr} {xv yv : Value} (h0 : ts[0]? = some t) (h1 : ts[1]? = some u)
  (hu : P.underlying u = some .string \/ ∃ e', P.underlying u = some (.slice e')) (hx : VR C x xv) (hy : ∀ m, (∀ e ∈ new, e.cells.length = m) -> m ≠ 0 -> ElemsR P C w m new yv) (h : appendV P F t x new = some (v, F')) :
  ∃ C' r w', (Builtin.append_ ts ty #[xv, yv]).run P w = .ok r w' /\ SR C' lam F'.lm v r /\ St C' lam ms F' b a w' cs /\ Ext C F.hp (Own lam ms) w C' F'.hp (Own lam ms) w' := by
 unfold Go.AM.appendV at h
 split at h
 ·cases h
 ·rename_i e he
  split at h
  ·cases h
  ·rename_i hnew
   simp only [Bool.or_eq_true, Bool.not_eq_true', not_or, Bool.not_eq_false, Bool.not_eq_true] at hnew
   obtain ⟨hall, hrow⟩ := hnew
   obtain ⟨hsz0, i, z, hi, hby, hzt, hzl⟩ := rowable_ok hrow
   have hm : ∀ e' ∈ new, e'.cells.length = szT P e := fun e' he' => by simpa using List.all_eq_true.1 hall e' he'
   have hE := hy (szT P e) hm hsz0
   have hszi : szT P e = i.size := by simp [szT, hi]
   obtain ⟨zv, z1, z2, i', hi', hz'⟩ := run_zero (P := P) (w := w) (C := C) hzt
   rw [hi] at hi'
   cases hi'
   have hzs : zv.cells.size = i.size := by rw [<- hszi, <- hzl.1]; exact (z2.cells (not_tuple hzl.2)).1.1
   split at h
   ·rename_i hn0
    have hnil : new = [] := List.eq_nil_of_length_eq_zero hn0
    subst hnil
    have key : x = v /\ F = F' /\ isSliceA x = true := by
     cases x <;> simp at h <;> exact ⟨h.1, h.2, rfl⟩
    obtain ⟨rfl, rfl, hs⟩ := key
    obtain ⟨p, n, cap, rfl, hnc⟩ := slice_form hs hx
    obtain ⟨c, hc, hrun⟩ := hE.read w rfl
    have : c = #[] := Array.eq_empty_of_size_eq_zero (by simpa [flat] using hc.1)
    subst this
    refine ⟨C, _, w, run_append_none' h0 h1 (elemT_und he) hu hi hE.len ?_ hnc, SR.of hx, s, .refl _ _ _ _⟩
    rw [<- hszi]; exact hrun
   ·rename_i hn0
    have bound : ∀ sLen, sLen + new.length <= 16777216 -> ∀ sCap, sCap < sLen + new.length -> ((sLen + new.length : Nat) : Int) <= 9223372036854775807 /\ Builtin.nextslicecap (sLen + new.length) sCap * i.bytes <= 281474976710656 := fun sLen hb sCap hlt =>
     ⟨by omega, growslice_fits hlt (by
      have : (sLen + new.length) * i.bytes <= 16777216 * 65536 := Nat.mul_le_mul hb hby
      omega)⟩
    obtain ⟨news, hvs, hrun⟩ := hE.read w.drew rfl
    have hfl := flat_length hm
    have hns : news.size = new.length * i.size := by rw [hvs.1, hfl, hszi]
    have grow0 : ∀ (p : Option Addr), new.length <= most -> ∃ C' r w', (Builtin.append_ ts ty #[.slice p 0 0, yv]).run P w = .ok r w' /\ SR C' lam F.lm (.row F.hp.next 0 new.length) r /\
      St C' lam ms { F with hp := F.hp.new (.rw (szT P e) new) } b a w' cs /\ Ext C F.hp (Own lam ms) w C' (F.hp.new (.rw (szT P e) new)) (Own lam ms) w' := by
     intro p hb
     obtain ⟨b1, b2⟩ := bound 0 (by simpa [most] using hb) 0 (by omega)
     have hge := grownCap_ge w (0 + new.length) 0 e
     obtain ⟨C', q1, q2, q3⟩ := s.grown (olds := #[]) (news := news) (rest := Builtin.zeroCells zv.cells (grownCap w (0 + new.length) 0 e - (0 + new.length))) (T := e) (cap := grownCap w (0 + new.length) 0 e) hm hE.one (by simpa using hvs)
      (by
       simp only [Array.size_append, size_zeroCells, hns, hzs, hszi]
       rw [show (#[] : Array Value).size = 0 from rfl, Nat.zero_add, <- Nat.add_mul]
       congr 1
       omega) (by omega)
     refine ⟨C', _, _, run_append_grow' h0 h1 (elemT_und he) hu hi hz' hE.len (olds := #[]) (news := news) ?_ (by rw [<- hszi]; exact hrun) (by omega) b1 b2, by simpa using q1, q2, q3⟩
     cases p <;> simp [Builtin.firstCells, loadCells, loadCellsFrom]
    split at h
    ·split at h
     ·rename_i hb
      cases h
      cases hx
      exact grow0 none hb
     ·cases h
    ·split at h
     ·rename_i hb
      cases h
      cases hx
      exact grow0 (some _) hb
     ·cases h
    ·rename_i id off len
     split at h
     ·rename_i sz el hg
      split at h
      ·rename_i hh
       obtain ⟨rfl, htip, hb⟩ := hh
       cases h
       have hb' : len + new.length <= 16777216 := by simpa [most] using hb
       have hall' : ∀ e' ∈ el.drop off ++ new, e'.cells.length = szT P e /\ ∀ x ∈ e'.cells, x.one = true := by
        obtain ⟨L, e1, c, f1, f2, f3, f4, f5⟩ := s.wr.blk id _ hg
        intro e' he'
        rcases List.mem_append.1 he' with h | h
        ·obtain ⟨j, hj⟩ := List.mem_iff_getElem?.1 (List.mem_of_mem_drop h)
         exact ⟨(f5 j e' hj).1, (f5 j e' hj).2.1⟩
        ·exact ⟨hm e' h, hE.one e' h⟩
       have hdl : (el.drop off).length = len := by simp; omega
       have hlen2 : (el.drop off ++ new).length = len + new.length := by simp; omega
       have hEold : ElemsR P C w (szT P e) (el.drop off) xv := by
        have := s.elems (P := P) (l := el.drop off) hx (by simp only [Heap.elems, hg]; rw [if_pos (by omega), List.take_of_length_le (by omega)]) (fun e' he' => (hall' e' (List.mem_append_left _ he')).1)
        exact this
       obtain ⟨L, e1, c, f1, f2, f3, f4, f5⟩ := s.wr.blk id _ hg
       cases hx with
       | row A e2 k1 k2 k3 =>
        rename_i cap L'
        rw [e1] at e2
        cases e2
        by_cases hfit : len + new.length <= cap
        ·rcases k2 with rfl | rfl
         ·omega
         ·obtain ⟨news', hvs', hrun'⟩ := hE.read w rfl
          have hns' : news'.size = new.length * szT P e := by rw [hvs'.1, hfl]
          have hcapm : (off + (len + new.length)) * szT P e <= (off + cap) * szT P e := Nat.mul_le_mul_right _ (by omega)
          rw [f2] at k3
          have hsum : off * szT P e + (len * szT P e + new.length * szT P e) = (off + (len + new.length)) * szT P e := by rw [Nat.add_mul, Nat.add_mul]
          have hone : ∀ y ∈ news'.toList, oneV y = true := hvs'.one_all fun y hy => by
           obtain ⟨e', he', hy'⟩ := mem_flat hy
           exact hE.one e' he' y hy'
          obtain ⟨w', r1, r2, r3, r4, r5, r6, r7⟩ := run_storeCells (P := P) (O := L.o + off * szT P e + len * szT P e) news'.toList 0 w c f1 (by simp [hns']; omega) hone
          rw [Nat.add_zero] at r2
          let L2 : Loc := { L with o := L.o + off * L.sz }
          have hle := muPush_le s.wr L2
          have hpos : L.o + off * szT P e + (el.drop off).length * szT P e = L.o + off * szT P e + len * szT P e := by rw [hdl]
          have hfold : FlatR C (szT P e) (el.drop off) (setMany c (L.o + off * szT P e + len * szT P e) news'.toList) (L.o + off * szT P e) := fun j e' hj => by
           rw [List.getElem?_drop] at hj
           obtain ⟨g1, g2, g3⟩ := f5 (off + j) e' hj
           refine ⟨g1, g2, fun j' y hy => ?_⟩
           obtain ⟨vv, hv, hr⟩ := g3 j' y hy
           have hjl := lt_of_get hj
           have hj'l := lt_of_get hy
           rw [g1] at hj'l
           have hb1 := mul_lt_of (i := j) (n := len) (m := szT P e) (by omega) hj'l
           refine ⟨vv, ?_, hr⟩
           rw [setMany_get _ _ _ _ (by simp [hns']; omega), if_neg (by omega), <- hv, Nat.add_mul]
           congr 1
           omega
          have hfnew : FlatR C (szT P e) new (setMany c (L.o + off * szT P e + len * szT P e) news'.toList) (L.o + off * szT P e + (el.drop off).length * szT P e) := FlatR.of_flat hm hE.one hvs' fun k vv hv => by
           have hk : k < news'.size := by
            rcases Nat.lt_or_ge k news'.size with h' | h'
            ·exact h'
            ·rw [Array.getElem?_eq_none h'] at hv; cases hv
           rw [hpos, setMany_get _ _ _ _ (by simp [hns']; omega), if_pos (by simp; omega), Nat.add_sub_cancel_left]
           simpa using hv
          have hWR := WR.turn (C' := muPush C F.hp.next L2) (h' := (F.hp.del id).new (.rw (szT P e) (el.drop off ++ new))) (id' := F.hp.next) (L' := L2) (blk' := .rw (szT P e) (el.drop off ++ new)) (w' := w') s.wr hle rfl hg e1
           (fun j bj hj => by
            rw [Heap.get_new] at hj
            by_cases e3 : F.hp.next = j
            ·rw [if_pos (by exact e3)] at hj
             exact .inr ⟨e3.symm, by cases hj; rfl⟩
            ·rw [if_neg (by exact e3), Heap.get_del] at hj
             by_cases e4 : id = j
             ·rw [if_pos e4] at hj; cases hj
             ·rw [if_neg e4] at hj
              exact .inl ⟨fun e5 => e3 e5.symm, fun e5 => e4 e5.symm, hj, fun Lj hLj => by simp only [muPush] at hLj; rw [if_neg (fun e5 => e3 e5.symm)] at hLj; exact hLj⟩)
           (by simp [muPush]) rfl (Nat.le_succ _) (fun j Lj hj => by
            show j < F.hp.next + 1
            simp only [muPush] at hj
            split at hj
            ·omega
            ·have := s.wr.fresh j Lj hj; omega) r3 r4
           ⟨_, r2, f2, by rw [setMany_size]; exact f3, by
            rw [setMany_size, hlen2]
            show L.o + off * L.sz + (len + new.length) * szT P e <= c.size
            rw [f2, Nat.add_mul]
            omega, by
            show FlatR _ _ _ _ (L.o + off * L.sz)
            rw [f2]
            exact (FlatR.append hfold hfnew).mono hle⟩ r5 r6 r7
          obtain ⟨s', e'⟩ := s.turn hWR
          refine ⟨_, _, w', run_append_fits' h0 h1 (elemT_und he) hu hi (news := news') hE.len (by rw [<- hszi]; exact hrun') hfit ?_, SR.of (VR.row (L := L2) _ (by simp [muPush]) (by omega) (.inr (by simp [L2])) (by
           show L.o + off * L.sz + (0 + cap) * L.sz <= L.tot
           rw [f2, Nat.zero_add]
           have : off * szT P e + cap * szT P e = (off + cap) * szT P e := by rw [Nat.add_mul]
           omega)), s', e'⟩
          rw [addr_add, <- hszi, f2]
          exact r1
        ·obtain ⟨olds, hvo, hruno⟩ := hEold.read w.drew rfl
         have hos : olds.size = len * i.size := by rw [hvo.1, flat_length (fun e' he' => (hall' e' (List.mem_append_left _ he')).1), hdl, hszi]
         obtain ⟨b1, b2⟩ := bound len hb' cap (by omega)
         have hge := grownCap_ge w (len + new.length) cap e
         obtain ⟨s1, x1⟩ := s.turn (WR.del s.wr id)
         obtain ⟨C', q1, q2, q3⟩ := s1.grown (elems := el.drop off ++ new) (olds := olds) (news := news) (rest := Builtin.zeroCells zv.cells (grownCap w (len + new.length) cap e - (len + new.length))) (T := e) (cap := grownCap w (len + new.length) cap e) (sz := szT P e)
          (fun e' he' => (hall' e' he').1) (fun e' he' => (hall' e' he').2) (by rw [flat_append]; exact hvo.append hvs)
          (by
           simp only [Array.size_append, size_zeroCells, hns, hzs, hszi, hos]
           rw [<- Nat.add_mul, <- Nat.add_mul]
           congr 1
           omega) (by omega)
         refine ⟨C', _, _, run_append_grow' h0 h1 (elemT_und he) hu hi hz' hE.len (olds := olds) (news := news) ?_ (by rw [<- hszi]; exact hrun) (by omega) b1 b2, by rw [hlen2] at q1; exact q1, q2, x1.trans q3⟩
         rw [<- hszi, <- hdl]
         rw [hdl] at hruno ⊢
         exact hruno
      ·cases h
     ·cases h
    ·cases h
end
end Go.AM
namespace Go.AM
open Go
variable [Keep]
def Answered (P : Program) (C : Cfg) (h : Heap) (w : World) (m : Machine) (c : Frame) (cs : List Frame) : COut -> Prop
 | .ret v h' _ => ∃ C' w' u, Steps P m (lone (c.finish u) cs w') /\ VR C' v u /\ WR C' h' w' /\ Ext C h (fun _ => False) w C' h' (fun _ => False) w'
 | .pan v h' _ => ∃ C' w' u, Steps P m (lone (c.raise [{ v := u, recovered := false }]) cs w') /\ VR C' v u /\ WR C' h' w' /\ Ext C h (fun _ => False) w C' h' (fun _ => False) w'
 | .fail => True
def ClOK (P : Program) (cl : FuncId -> List AV -> Heap -> COut) : Prop :=
 ∀ (f : FuncId) (args : List AV) (h : Heap) (C : Cfg) (w : World) (vs : Array Value), WR C h w -> VRs C args vs -> cl f args h ≠ .fail ->
  (∃ fn, P.funcs[f]? = some fn /\ fn.body.isSome = true) /\ ∀ c cs, Answered P C h w (lone (Frame.enter P f vs .normal) (c :: cs) w) c cs (cl f args h)
def RdOK (P : Program) (rd : Nat -> List AV -> Heap -> COut) : Prop :=
 ∀ (id : Nat) (args : List AV) (h : Heap) (C : Cfg) (w : World) (vs : Array Value) (L : Loc), WR C h w -> VRs C args vs -> C.mu id = some L -> rd id args h ≠ .fail ->
  ∃ f tmps assign body, (Instr.yield L.b vs).run P w = .ok (.round L.b f tmps assign body) w /\ ∀ c cs, Answered P C h w (lone (Frame.round L.b f tmps assign body .normal) (c :: cs) w) c cs (rd id args h)
def NoNum (P : Program) : Prop := ∀ (f : FuncId) (fn : Func), P.funcs[f]? = some fn -> (fn.name == "runtime.NumGoroutine") = false
theorem run_callFunc {P : Program} {w : World} (hP : NoNum P) {f : FuncId} {fn : Func} {vs : Array Value} (hf : P.funcs[f]? = some fn) (hb : fn.body.isSome = true) : (callFunc f vs).run P w = .ok (.enter f vs) w := by
 cases hbb : fn.body with
 | none => rw [hbb] at hb; cases hb
 | some c =>
  have hn : ¬ fn.name = "runtime.NumGoroutine" := by simpa using hP f fn hf
  simp [callFunc, hf, hn, hbb]
def CsR (b : Frame) (cs cs' : List Frame) : Prop := cs' = cs \/ (b.kind = .deferred /\ ∃ c rest m, cs = c :: rest /\ cs' = { c with mode := m } :: rest)
theorem CsR.refl (b : Frame) (cs : List Frame) : CsR b cs cs := .inl rfl
theorem CsR.trans {b : Frame} {x y z : List Frame} (h : CsR b x y) (k : CsR b y z) : CsR b x z := by
 rcases h with rfl | ⟨h1, c, rest, m, rfl, rfl⟩
 ·exact k
 ·rcases k with rfl | ⟨_, c', rest', m', e, rfl⟩
  ·exact .inr ⟨h1, c, rest, m, rfl, rfl⟩
  ·cases e
   exact .inr ⟨h1, c, rest, m', rfl, rfl⟩
def Pan (u : Value) : FrameMode := .panicking [{ v := u, recovered := false }]
def OpRun (P : Program) (C : Cfg) (lam : Nat -> Option Nat) (ms : List Nat) (F : Fr) (b : Frame) (a : Act) (w : World) (cs : List Frame) (ops : Array Oper) (i : Nat) (rest : List Nat) (k : List Item) (bx : Bool) (d : Option Tmp) : OOut -> Prop
 | .val v F' => ∃ C' lam' a' cs' w' u, Steps P (lone (b.atR a (.inRegion ops (i :: rest) :: k)) cs w) (lone (b.atR (a'.put d u) (.inRegion ops rest :: k)) cs' w') /\ a'.tmps = a.tmps /\ SR C' lam' F'.lm v u /\
   St C' lam' ms F' b a' w' cs' /\ Ext C F.hp (Own lam ms) w C' F'.hp (Own lam' ms) w' /\ CsR b cs cs' /\ (bx = false -> lam' = lam)
 | .pan v F' => ∃ C' lam' a' cs' w' u, Steps P (lone (b.atR a (.inRegion ops (i :: rest) :: k)) cs w) (lone { b.atR a' (.inRegion ops (i :: rest) :: k) with mode := Pan u } cs' w') /\ a'.tmps = a.tmps /\ VR C' v u /\
   St C' lam' ms F' b a' w' cs' /\ Ext C F.hp (Own lam ms) w C' F'.hp (Own lam' ms) w' /\ CsR b cs cs' /\ (bx = false -> lam' = lam)
 | .fail => True
section
variable {P : Program} {w w' : World} {C : Cfg} {lam : Nat -> Option Nat} {ms : List Nat} {F : Fr} {b : Frame} {a : Act} {cs : List Frame} {ops : Array Oper} {i : Nat} {rest : List Nat} {k : List Item} {o : Oper}
theorem Eff.opRun {v : AV} {F' : Fr} (h : Eff P C lam ms F b a w cs o v F') (ho : ops[i]? = some o) (hw : Region.wanted o (yielded ops a.tmps) = true) (hd : ∀ c, o.op ≠ .defer c) : OpRun P C lam ms F b a w cs ops i rest k (boxy o.op) o.dst (.val v F') := by
 obtain ⟨C', lam', u, w', hr, h1, h2, h3, h4⟩ := h
 refine ⟨C', lam', a, cs, w', u, .one ?_, rfl, h1, h2, h3, .refl b cs, h4⟩
 rcases hr with hr | ⟨rfl, hr⟩
 ·exact stepA_value ho hw hd hr
 ·exact stepA_skip ho hw hd hr
theorem St.answered (s : St C lam ms F b a w cs) (ho : ops[i]? = some o) {m : Machine} {r : COut} (h0 : step P (lone (b.atR a (.inRegion ops (i :: rest) :: k)) cs w) = .next m)
  (h : Answered P C F.hp w m (b.atR a (.inRegion ops (i :: rest) :: k)) cs r) : OpRun P C lam ms F b a w cs ops i rest k (boxy o.op) o.dst (outOf F r) := by
 cases r with
 | ret v h' up =>
  obtain ⟨C', w', u, h1, h2, h3, h4⟩ := h
  have hf := Frame.finish_atR b a ops i rest k u
  rw [ho] at hf
  rw [hf] at h1
  exact ⟨C', lam, a, cs, w', u, .head h0 h1, rfl, SR.of h2, s.later h3 h4, h4.wide _, .refl b cs, fun _ => rfl⟩
 | pan v h' up =>
  obtain ⟨C', w', u, h1, h2, h3, h4⟩ := h
  rw [Frame.raise_atR] at h1
  exact ⟨C', lam, a, cs, w', u, .head h0 h1, rfl, h2, s.later h3 h4, h4.wide _, .refl b cs, fun _ => rfl⟩
 | fail => trivial
theorem VR.func_inv {f : FuncId} {first capt : List AV} {v : Value} (h : VR C (.func (.func f) first capt) v) : ∃ vs ws, v = .func (.func f) vs ws /\ VRs C first vs /\ VRs C capt ws := by
 cases h with
 | func h1 h2 h3 h4 => exact ⟨_, _, rfl, ⟨h1, h2⟩, h3, h4⟩
theorem VR.yield_inv {id : Nat} {v : Value} (h : VR C (.yield id) v) : ∃ L, C.mu id = some L /\ v = .func (.yield L.b) #[] #[] := by
 cases h with
 | yield h => exact ⟨_, h, rfl⟩
theorem St.callE {cl : FuncId -> List AV -> Heap -> COut} {rd : Nat -> List AV -> Heap -> COut} (hP : NoNum P) (hc : ClOK P cl) (hr : RdOK P rd) (s : St C lam ms F b a w cs) (ho : ops[i]? = some o) (hw : Region.wanted o (yielded ops a.tmps) = true) {c : Call} {f : Operand}
  (hop : o.op = .call c) (hf : c.callee = .value f) : OpRun P C lam ms F b a w cs ops i rest k (boxy o.op) o.dst (F.callE cl rd f c.args.toList) := by
 have hd : ∀ c', o.op ≠ .defer c' := fun c' e => by rw [hop] at e; cases e
 unfold Fr.callE
 split
 ·rename_i fv l hfv hl
  have r1 := s.opv hfv
  have r2 := opvs_arr s hl
  by_cases hfail : callV cl rd fv l F.hp = .fail
  ·rw [hfail]; trivial
  ·unfold callV at hfail ⊢
   split at hfail
   ·rename_i g first capt
    obtain ⟨vs, ws, e, rv, rw'⟩ := r1.func_inv
    obtain ⟨⟨fn, hfn, hb⟩, hans⟩ := hc g _ F.hp C w _ s.wr (VRs.append (VRs.append rv r2) rw') hfail
    refine s.answered ho (stepA_enter ho hw hd ?_) (hans _ cs)
    simp only [execOp, hop, resolve, hf, e, Deferred.ofValue, Sem.run_bind, Sem.run_pure, Result.andThen_ok, invoke, run_callFunc hP hfn hb]
   ·rename_i id
    obtain ⟨L, hL, e⟩ := r1.yield_inv
    obtain ⟨g, tmps, assign, body, hrun, hans⟩ := hr id _ F.hp C w _ L s.wr r2 hL hfail
    refine s.answered ho (stepA_round ho hw hd ?_) (hans _ cs)
    simp only [execOp, hop, resolve, hf, e, Deferred.ofValue, Sem.run_bind, Sem.run_pure, Result.andThen_ok, invoke, Array.empty_append, hrun]
   ·exact absurd rfl hfail
 ·trivial
theorem St.panicOp {r : AV} {u : Value} (s : St C lam ms F b a w cs) (ho : ops[i]? = some o) (hw : Region.wanted o (yielded ops a.tmps) = true) (hd : ∀ c, o.op ≠ .defer c) (hr : VR C r u)
  (h : (execOp a.eval o).run P w = .halt (.panic u) w) : OpRun P C lam ms F b a w cs ops i rest k (boxy o.op) o.dst (.pan r F) :=
 ⟨C, lam, a, cs, w, u, .one (stepA_panic ho hw hd h), rfl, hr, s, .refl _ _ _ _, .refl b cs, fun _ => rfl⟩
theorem VR.iface_inv {t : TypeId} {x : AV} {v : Value} (h : VR C (.iface t x) v) : ∃ u, v = .iface t u /\ VR C x u := by
 cases h with
 | iface h => exact ⟨_, rfl, h⟩
theorem St.panicE {x : Operand} (s : St C lam ms F b a w cs) (ho : ops[i]? = some o) (hw : Region.wanted o (yielded ops a.tmps) = true) (hd : ∀ c, o.op ≠ .defer c)
  (h : ∀ t u, a.eval x = .iface t u -> (execOp a.eval o).run P w = .halt (.panic (.iface t u)) w) : OpRun P C lam ms F b a w cs ops i rest k (boxy o.op) o.dst (F.panicE x) := by
 unfold Fr.panicE
 split
 ·rename_i t v hv
  obtain ⟨u, e, r⟩ := (s.opv hv).iface_inv
  refine s.panicOp ho hw hd (.iface r) (h t u e)
 ·trivial
theorem methodOf_ok {t : TypeId} {name : String} {f : FuncId} (h : methodOf P t name = some f) (fuel : Nat) (v : Value) : (method (fuel + 1) t v name).run P w = .ok (f, v) w := by
 unfold methodOf at h
 split at h
 ·cases h
 ·rename_i i d hnp hi hu
  split at h
  ·rename_i m hm
   split at h
   ·rename_i hp
    split at h
    ·rename_i f' hf
     cases h
     have hpe : m.path = #[] := by simpa using hp
     have hra : ∀ nm, (receiverAt t (.val v) false nm).run P w = .ok v w := fun nm => by
      simp only [receiverAt, Sem.run_bind, run_und hu, Result.andThen_ok]
      cases d <;> first | rfl | exact absurd rfl (hnp _)
     simp [method, run_info hi, hm, hpe, follow, hf, hra]
    ·cases h
   ·cases h
  ·cases h
 ·cases h
theorem St.invokeE {cl : FuncId -> List AV -> Heap -> COut} (hP : NoNum P) (hc : ClOK P cl) (s : St C lam ms F b a w cs) (ho : ops[i]? = some o) (hw : Region.wanted o (yielded ops a.tmps) = true) {c : Call} {x : Operand} {name : String}
  (hop : o.op = .call c) (hf : c.callee = .invoke x name) : OpRun P C lam ms F b a w cs ops i rest k (boxy o.op) o.dst (F.invokeE P cl x name c.args.toList) := by
 have hd : ∀ c', o.op ≠ .defer c' := fun c' e => by rw [hop] at e; cases e
 unfold Fr.invokeE
 split
 ·rename_i t v l hfv hl
  obtain ⟨u, e, r1⟩ := (s.opv hfv).iface_inv
  have r2 := opvs_arr s hl
  split
  ·rename_i g hg
   by_cases hfail : cl g (v :: l) F.hp = .fail
   ·rw [hfail]; trivial
   ·have r3 := VRs.cons r1 r2
    obtain ⟨⟨fn, hfn, hb⟩, hans⟩ := hc g _ F.hp C w _ s.wr r3 hfail
    refine s.answered ho (stepA_enter ho hw hd ?_) (hans _ cs)
    have hm := fun fuel => methodOf_ok (w := w) hg fuel u
    have hdp : P.types.size + Made.depth = P.types.size + Made.depth - 1 + 1 := by simp [Made.depth]
    have hex : (#[Value.iface t u] ++ c.args.map a.eval).extract 1 (#[Value.iface t u] ++ c.args.map a.eval).size = c.args.map a.eval := by
     apply Array.ext'
     simp [List.take_of_length_le]
    have hget : (#[Value.iface t u] ++ c.args.map a.eval)[0]? = some (.iface t u) := by
     rw [Array.getElem?_append_left (by simp)]; rfl
    simp only [execOp, hop, resolve, hf, e, Sem.run_bind, Sem.run_pure, Result.andThen_ok, invoke, hget, callMethod, run_program, hex]
    rw [hdp, hm]
    simp only [Result.andThen_ok, run_callFunc hP hfn hb]
  ·trivial
 ·trivial
theorem St.recoverE (s : St C lam ms F b a w cs) (ho : ops[i]? = some o) (hw : Region.wanted o (yielded ops a.tmps) = true) (hd : ∀ c, o.op ≠ .defer c) (hr : (execOp a.eval o).run P w = .ok .recover w) :
  OpRun P C lam ms F b a w cs ops i rest k (boxy o.op) o.dst F.recoverE := by
 unfold Fr.recoverE
 split
 ·trivial
 ·rename_i hrnd
  have hro : b.roundOf = none := by
   have := s.rnd
   cases h : b.roundOf with
   | none => rfl
   | some l => rw [h] at this; simp at this; rw [<- this] at hrnd; simp at hrnd
  have hup := s.up
  split
  ·rename_i v hv
   rw [hv] at hup
   obtain ⟨h1, c, rest', u, rfl, h3, h4⟩ := hup
   have ht : tryRecover (b.atR a (.inRegion ops (i :: rest) :: k)) (c :: rest') = some (u, { c with mode := .panicking [{ v := u, recovered := true }] } :: rest') := by
    simp [tryRecover, Frame.atR, h1, h3]
   refine ⟨C, lam, a, _, w, u, .one (stepA_recover ho hw hd hro hr ht), rfl, SR.of h4, ?_, .refl _ _ _ _, .inr ⟨h1, c, rest', _, rfl, rfl⟩, fun _ => rfl⟩
   exact { s with up := ⟨h1, _, _, u, rfl, rfl, h4⟩ }
  ·rename_i hv
   have ht : tryRecover (b.atR a (.inRegion ops (i :: rest) :: k)) cs = none := by
    cases hF : F.up with
    | none =>
     rw [hF] at hup
     rcases hup with h | ⟨h, c, rest', rfl, h2⟩
     ·simp [tryRecover, Frame.atR, h]
     ·simp [tryRecover, Frame.atR, h, h2]
    | some p =>
     obtain ⟨v, r⟩ := p
     rw [hF] at hup
     obtain ⟨h1, c, rest', u, rfl, h3, h4⟩ := hup
     cases r with
     | false => exact absurd hF (hv v)
     | true => simp [tryRecover, Frame.atR, h1, h3]
   exact ⟨C, lam, a, cs, w, .nilIface, .one (stepA_recover ho hw hd hro hr ht), rfl, SR.of .niliface, s, .refl _ _ _ _, .refl b cs, fun _ => rfl⟩
theorem St.appendE (s : St C lam ms F b a w cs) (ho : ops[i]? = some o) (hw : Region.wanted o (yielded ops a.tmps) = true) {c : Call} (hop : o.op = .call c) (hf : c.callee = .builtin .append) :
  OpRun P C lam ms F b a w cs ops i rest k (boxy o.op) o.dst (F.appendE P c.argTypes.toList c.args.toList) := by
 have hd : ∀ c', o.op ≠ .defer c' := fun c' e => by rw [hop] at e; cases e
 unfold Fr.appendE
 split
 ·rename_i t u ts x y hts hl
  have r2 := opvs_arr s hl
  obtain ⟨xv, hxv, rx⟩ := r2.get (i := 0) rfl
  obtain ⟨yv, hyv, ry⟩ := r2.get (i := 1) rfl
  have hargs : c.args.map a.eval = #[xv, yv] := by
   apply Array.ext
   ·exact r2.1
   ·intro j h1 h2
    have : j = 0 \/ j = 1 := by simp at h2; omega
    rcases this with rfl | rfl
    ·have := hxv; rw [Array.getElem?_eq_getElem h1] at this; simpa using this
    ·have := hyv; rw [Array.getElem?_eq_getElem h1] at this; simpa using this
  have h0 : c.argTypes[0]? = some t := by rw [<- Array.getElem?_toList, hts]; rfl
  have h1 : c.argTypes[1]? = some u := by rw [<- Array.getElem?_toList, hts]; rfl
  have fin : ∀ (new : List AV), (P.underlying u = some .string \/ ∃ e', P.underlying u = some (.slice e')) -> (∀ m, (∀ e ∈ new, e.cells.length = m) -> m ≠ 0 -> ElemsR P C w m new yv) ->
    OpRun P C lam ms F b a w cs ops i rest k (boxy o.op) o.dst (okO (Go.AM.appendV P F t x new)) := by
   intro new hu hE
   cases hv : Go.AM.appendV P F t x new with
   | none => trivial
   | some p =>
    obtain ⟨v, F'⟩ := p
    obtain ⟨C', r, w', q1, q2, q3, q4⟩ := s.appendV (P := P) (ty := o.type) h0 h1 hu rx hE hv
    refine Eff.opRun ⟨C', lam, r, w', .inl ?_, q2, q3, q4, fun _ => rfl⟩ ho hw hd
    simp only [execOp, hop, resolve, hf, Sem.run_bind, Sem.run_pure, Result.andThen_ok, invoke, builtin, hargs, q1]
  split
  ·rename_i hu
   split
   ·rename_i str
    refine fin _ (.inl hu) fun m hm hm0 => ?_
    have e := ry.str_inv
    subst e
    by_cases hl0 : str = []
    ·subst hl0
     have := ElemsR.str (P := P) (C := C) (w := w) []
     refine ⟨this.len, fun w1 _ => ⟨#[], VRs.nil C, ?_⟩, by simp⟩
     simp [Builtin.firstCells]
    ·have : m = 1 := by
      cases str with
      | nil => exact absurd rfl hl0
      | cons x r => exact (hm _ (List.mem_cons_self ..)).symm
     subst this
     exact ElemsR.str str
   ·trivial
  ·rename_i e' hu
   split
   ·trivial
   ·split
    ·rename_i new hnew
     exact fin _ (.inr ⟨e', hu⟩) fun m hm _ => s.elems ry hnew hm
    ·trivial
  ·trivial
 ·trivial
theorem St.deferE (s : St C lam ms F b a w cs) (ho : ops[i]? = some o) (hw : Region.wanted o (yielded ops a.tmps) = true) {c : Call} (hop : o.op = .defer c) : OpRun P C lam ms F b a w cs ops i rest k (boxy o.op) o.dst (F.deferE c) := by
 unfold Fr.deferE
 split
 ·rename_i f hf hrnd
  split
  ·rename_i g first capt l hfv hl
   obtain ⟨vs, ws, e, rv, rw'⟩ := (s.opv hfv).func_inv
   have r2 := opvs_arr s hl
   have hro : b.roundOf = none := by
    have := s.rnd
    cases h : b.roundOf with
    | none => rfl
    | some l => rw [h, hrnd] at this; cases this
   refine ⟨C, lam, { a with defers := { target := .fn (.func g) ws, args := vs ++ c.args.map a.eval } :: a.defers }, cs, w, undef, .one (stepA_defer ho hw hro ?_), rfl, SR.of (VRundef C), ?_, .refl _ _ _ _, .refl b cs, fun _ => rfl⟩
   ·simp only [execOp, hop, resolve, hf, e, Deferred.ofValue, Sem.run_bind, Sem.run_pure, Result.andThen_ok]
   ·exact { s with df := .fn s.df (VRs.append rv r2) rw' }
  ·trivial
 ·trivial
theorem ef_sound {X : Ctx} {cl : FuncId -> List AV -> Heap -> COut} {rd : Nat -> List AV -> Heap -> COut} (hP : NoNum X.P) (hc : ClOK X.P cl) (hr : RdOK X.P rd) (s : St C lam ms F b a w cs) (ho : ops[i]? = some o)
  (hw : Region.wanted o (yielded ops a.tmps) = true) : OpRun X.P C lam ms F b a w cs ops i rest k (boxy o.op) o.dst (efV X cl rd F o.dst o.op) := by
 have eff : ∀ {r : OOut}, (∀ v F', r = .val v F' -> Eff X.P C lam ms F b a w cs o v F') -> (∀ v F', r ≠ .pan v F') -> (∀ c, o.op ≠ .defer c) -> OpRun X.P C lam ms F b a w cs ops i rest k (boxy o.op) o.dst r := by
  intro r h1 h2 hd
  cases r with
  | val v F' => exact (h1 v F' rfl).opRun ho hw hd
  | pan v F' => exact absurd rfl (h2 v F')
  | fail => trivial
 suffices main : ∀ op, o.op = op -> OpRun X.P C lam ms F b a w cs ops i rest k (boxy o.op) o.dst (efV X cl rd F o.dst op) from main _ rfl
 intro op hop
 cases op <;> simp only [efV] <;> try trivial
 case alloc t => exact eff (fun v F' h => s.allocE hop h) (fun v F' h => by unfold Fr.allocE at h; split at h; exact okO_pan h; cases h) (fun c e => by rw [hop] at e; cases e)
 case box t x => exact eff (fun v F' h => s.boxE hop h) (fun v F' h => by unfold Fr.boxE at h; split at h; exact okO_pan h; cases h) (fun c e => by rw [hop] at e; cases e)
 case store t x y => exact eff (fun v F' h => s.storeE hop h) (fun v F' h => by unfold Fr.storeE at h; (repeat' split at h) <;> cases h) (fun c e => by rw [hop] at e; cases e)
 case buildSlice t n ps => exact eff (fun v F' h => s.rowE hop h) (fun v F' h => by unfold Fr.rowE at h; (repeat' split at h) <;> cases h) (fun c e => by rw [hop] at e; cases e)
 case makeMap t r => exact eff (fun v F' h => s.mapE hop h) (fun v F' h => by unfold Fr.mapE at h; (repeat' split at h) <;> cases h) (fun c e => by rw [hop] at e; cases e)
 case makeSlice t l c => exact eff (fun v F' h => s.makeSliceE hop h) (fun v F' h => by unfold Fr.makeSliceE at h; (repeat' split at h) <;> cases h) (fun c e => by rw [hop] at e; cases e)
 case mapUpdate t m k x => exact eff (fun v F' h => s.mapUpdateE hop h) (fun v F' h => by unfold Fr.mapUpdateE at h; (repeat' split at h) <;> cases h) (fun c e => by rw [hop] at e; cases e)
 case range t x => exact eff (fun v F' h => s.rangeE hop h) (fun v F' h => by unfold Fr.rangeE at h; (repeat' split at h) <;> cases h) (fun c e => by rw [hop] at e; cases e)
 case next x st => exact eff (fun v F' h => s.nextE hop h) (fun v F' h => by unfold Fr.nextE at h; (repeat' split at h) <;> cases h) (fun c e => by rw [hop] at e; cases e)
 case defer c => exact s.deferE ho hw hop
 case panic x =>
  refine s.panicE ho hw (fun c e => by rw [hop] at e; cases e) fun t u e => ?_
  simp only [execOp, hop, e, Instr.panic, Sem.run_bind, run_goPanic, Result.andThen_halt]
 case call c =>
  unfold Fr.callOp
  have hd : ∀ c', o.op ≠ .defer c' := fun c' e => by rw [hop] at e; cases e
  split
  ·rename_i f hf; exact s.callE hP hc hr ho hw hop hf
  ·rename_i x name hf; exact s.invokeE hP hc ho hw hop hf
  ·rename_i bi hf
   unfold Fr.builtinE
   split
   ·exact s.appendE ho hw hop hf
   ·split
    ·rename_i x hx
     refine s.panicE ho hw hd fun t u e => ?_
     have hargs : (c.args.map a.eval).getD 0 .nilIface = .iface t u := by
      have : c.args = #[x] := Array.toList_inj.1 hx
      rw [this]
      simp [Array.getD, e]
     simp only [execOp, hop, resolve, hf, Sem.run_bind, Sem.run_pure, Result.andThen_ok, invoke, builtin, hargs, Instr.panic, run_goPanic, Result.andThen_halt]
    ·trivial
   ·split
    ·refine s.recoverE ho hw hd ?_
     simp only [execOp, hop, resolve, hf, Sem.run_bind, Sem.run_pure, Result.andThen_ok, invoke, builtin]
    ·trivial
   ·trivial
end
end Go.AM
namespace Go.AM
open Go
variable [Keep]
def Fin (C : Cfg) (lam : Nat -> Option Nat) (ms : List Nat) (F : Fr) (b : Frame) (a : Act) (w : World) (cs : List Frame) (F' : Fr) (C' : Cfg) (lam' : Nat -> Option Nat) (ms' : List Nat) (a' : Act) (cs' : List Frame) (w' : World) : Prop :=
 a'.tmps.size = a.tmps.size /\ St C' lam' ms' F' b a' w' cs' /\ Ext C F.hp (Own lam ms) w C' F'.hp (Own lam' ms') w' /\ CsR b cs cs'
def Outs (P : Program) (m : Machine) (C : Cfg) (lam : Nat -> Option Nat) (ms : List Nat) (F : Fr) (b : Frame) (a : Act) (w : World) (cs : List Frame) (k : List Item) : Out -> Prop
 | .norm F' => ∃ C' lam' ms' a' cs' w', Steps P m (lone (b.atR a' k) cs' w') /\ Fin C lam ms F b a w cs F' C' lam' ms' a' cs' w'
 | .exit id F' => ∃ C' lam' ms' a' cs' w' k1, Steps P m (lone (b.atR a' (.code (.exit id) :: k1)) cs' w') /\ exitTo id k1 = exitTo id k /\ Fin C lam ms F b a w cs F' C' lam' ms' a' cs' w'
 | .ret F' => ∃ C' lam' ms' a' cs' w' k1, Steps P m (lone (b.atR a' (.code .ret :: k1)) cs' w') /\ Fin C lam ms F b a w cs F' C' lam' ms' a' cs' w'
 | .pan v F' => ∃ C' lam' ms' a' cs' w' todo u, Steps P m (lone { b.atR a' todo with mode := Pan u } cs' w') /\ VR C' v u /\ Fin C lam ms F b a w cs F' C' lam' ms' a' cs' w'
 | .fail => True
def CodeOK (P : Program) (ev : Code -> Fr -> Out) : Prop :=
 ∀ (c : Code) (F : Fr) (C : Cfg) (lam : Nat -> Option Nat) (ms : List Nat) (b : Frame) (a : Act) (w : World) (cs : List Frame) (k : List Item), St C lam ms F b a w cs -> codeOk a.tmps.size c = true ->
  Outs P (lone (b.atR a (.code c :: k)) cs w) C lam ms F b a w cs k (ev c F)
section
variable {P : Program} {w w' : World} {C : Cfg} {lam : Nat -> Option Nat} {ms : List Nat} {F : Fr} {b : Frame} {a : Act} {cs : List Frame} {k : List Item}
theorem Fin.refl (s : St C lam ms F b a w cs) : Fin C lam ms F b a w cs F C lam ms a cs w := ⟨rfl, s, .refl _ _ _ _, .refl b cs⟩
theorem Fin.trans {F' F'' : Fr} {C' C'' : Cfg} {lam' lam'' : Nat -> Option Nat} {ms' ms'' : List Nat} {a' a'' : Act} {cs' cs'' : List Frame} {w' w'' : World} (h : Fin C lam ms F b a w cs F' C' lam' ms' a' cs' w')
  (h' : Fin C' lam' ms' F' b a' w' cs' F'' C'' lam'' ms'' a'' cs'' w'') : Fin C lam ms F b a w cs F'' C'' lam'' ms'' a'' cs'' w'' :=
 ⟨h'.1.trans h.1, h'.2.1, h.2.2.1.trans h'.2.2.1, h.2.2.2.trans h'.2.2.2⟩
theorem Outs.head {F1 : Fr} {C1 : Cfg} {lam1 : Nat -> Option Nat} {ms1 : List Nat} {a1 : Act} {cs1 : List Frame} {w1 : World} {m m1 : Machine} {o : Out} (hs : Steps P m m1) (hf : Fin C lam ms F b a w cs F1 C1 lam1 ms1 a1 cs1 w1)
  (h : Outs P m1 C1 lam1 ms1 F1 b a1 w1 cs1 k o) : Outs P m C lam ms F b a w cs k o := by
 cases o with
 | norm F' => obtain ⟨C', lam', ms', a', cs', w', h1, h2⟩ := h; exact ⟨C', lam', ms', a', cs', w', hs.trans h1, hf.trans h2⟩
 | exit id F' => obtain ⟨C', lam', ms', a', cs', w', k1, h1, h3, h2⟩ := h; exact ⟨C', lam', ms', a', cs', w', k1, hs.trans h1, h3, hf.trans h2⟩
 | ret F' => obtain ⟨C', lam', ms', a', cs', w', k1, h1, h2⟩ := h; exact ⟨C', lam', ms', a', cs', w', k1, hs.trans h1, hf.trans h2⟩
 | pan v F' => obtain ⟨C', lam', ms', a', cs', w', todo, u, h1, h3, h2⟩ := h; exact ⟨C', lam', ms', a', cs', w', todo, u, hs.trans h1, h3, hf.trans h2⟩
 | fail => trivial
theorem Outs.behind {x : Item} {m : Machine} {o : Out} (hx : ∀ id, exitTo id (x :: k) = exitTo id k) (hn : ∀ F', o ≠ .norm F') (h : Outs P m C lam ms F b a w cs (x :: k) o) : Outs P m C lam ms F b a w cs k o := by
 cases o with
 | norm F' => exact absurd rfl (hn F')
 | exit id F' => obtain ⟨C', lam', ms', a', cs', w', k1, h1, h3, h2⟩ := h; exact ⟨C', lam', ms', a', cs', w', k1, h1, h3.trans (hx id), h2⟩
 | ret F' => exact h
 | pan v F' => exact h
 | fail => trivial
theorem yielded_ok (s : St C lam ms F b a w cs) {ops : Array Oper} {o o' : Oper} {j : Nat} {want : Bool} (hg : o.guard = some (j, want)) (h : guardOk ops F o = true) : yielded ops a.tmps j = yieldedA ops F j := by
 unfold guardOk at h
 rw [hg] at h
 simp only at h
 unfold yielded yieldedA
 cases hj : ops[j]? with
 | none => rfl
 | some p =>
  rw [hj] at h
  simp only [Option.bind_some] at h ⊢
  cases hd : p.dst with
  | none => rfl
  | some t =>
   rw [hd] at h
   simp only [Option.bind_some] at h ⊢
   have hs := s.env t
   have e1 : F.tmp t = match F.e.get t with | some v => v | none => undefA := rfl
   have key : ∀ (v : Value), a.tmps.getD t undef = v -> (∀ bb, v ≠ .bool bb) -> (match a.tmps[t]? with | some (.bool b) => some b | _ => none) = (none : Option Bool) := by
    intro v hv hne
    rw [Array.getD_eq_getD_getElem?] at hv
    cases ht : a.tmps[t]? with
    | none => rfl
    | some u =>
     rw [ht] at hv
     simp at hv
     subst hv
     cases u <;> first | rfl | exact absurd rfl (hne _)
   cases he : F.e.get t with
   | none =>
    rw [e1, he] at hs
    refine key _ rfl fun bb e => ?_
    rw [e] at hs
    cases hs
   | some v =>
    rw [e1, he] at hs
    simp only at hs
    cases v with
    | bool bb =>
     cases hs' : a.tmps.getD t undef with
     | bool b2 =>
      rw [hs'] at hs
      have : b2 = bb := by
       have h2 : VR C (.bool bb) (.bool b2) := hs
       cases h2; rfl
      subst this
      rw [Array.getD_eq_getD_getElem?] at hs'
      cases ht : a.tmps[t]? with
      | none => rw [ht] at hs'; simp [undef] at hs'
      | some u => rw [ht] at hs'; simp at hs'; subst hs'; rfl
     | _ => rw [hs'] at hs; have h2 : VR C (.bool bb) _ := hs; cases h2
    | junk => rw [he] at h; simp at h
    | lptr s' g off =>
     refine key _ rfl fun bb e => ?_
     obtain ⟨_, _, _, _, _, h3, _⟩ := hs
     rw [h3] at e; cases e
    | _ =>
     refine key _ rfl fun bb e => ?_
     rw [e] at hs
     have h2 : VR C _ _ := hs
     cases h2
theorem wanted_ok (s : St C lam ms F b a w cs) {ops : Array Oper} {o : Oper} (h : guardOk ops F o = true) : Region.wanted o (yielded ops a.tmps) = wantedA ops F o := by
 unfold Region.wanted wantedA
 cases hg : o.guard with
 | none => rfl
 | some p =>
  obtain ⟨j, want⟩ := p
  simp only
  rw [yielded_ok s (o' := o) hg h]
def StepRun (P : Program) (C : Cfg) (lam : Nat -> Option Nat) (ms : List Nat) (F : Fr) (b : Frame) (a : Act) (w : World) (cs : List Frame) (ops : Array Oper) (i : Nat) (rest : List Nat) (k : List Item) (bx : Bool) : OOut -> Prop
 | .val v F' => ∃ C' lam' a' cs' w', Steps P (lone (b.atR a (.inRegion ops (i :: rest) :: k)) cs w) (lone (b.atR a' (.inRegion ops rest :: k)) cs' w') /\ Fin C lam ms F b a w cs F' C' lam' ms a' cs' w' /\ (bx = false -> lam' = lam)
 | .pan v F' => ∃ C' lam' a' cs' w' u, Steps P (lone (b.atR a (.inRegion ops (i :: rest) :: k)) cs w) (lone { b.atR a' (.inRegion ops (i :: rest) :: k) with mode := Pan u } cs' w') /\ VR C' v u /\ Fin C lam ms F b a w cs F' C' lam' ms a' cs' w' /\ (bx = false -> lam' = lam)
 | .fail => True
theorem fin_hp (F : Fr) (d : Option Tmp) (v : AV) : (F.put d v).hp = F.hp := by cases d <;> rfl
theorem fin_put_op {F' : Fr} {C' : Cfg} {lam' : Nat -> Option Nat} {a' : Act} {cs' : List Frame} {w' : World} {d : Option Tmp} {v : AV} {u : Value} (ht : a'.tmps = a.tmps) (hd : ∀ t, d = some t -> t < a.tmps.size) (hr : SR C' lam' F'.lm v u)
  (hs : St C' lam' ms F' b a' w' cs') (he : Ext C F.hp (Own lam ms) w C' F'.hp (Own lam' ms) w') (hc : CsR b cs cs') : Fin C lam ms F b a w cs (F'.put d v) C' lam' ms (a'.put d u) cs' w' :=
 ⟨by rw [Act.put_size, ht], hs.put hr (fun t e => by rw [ht]; exact hd t e), by rw [fin_hp]; exact he, hc⟩
theorem stepOp_ok {X : Ctx} {cl : FuncId -> List AV -> Heap -> COut} {rd : Nat -> List AV -> Heap -> COut} (hP : NoNum X.P) (hc : ClOK X.P cl) (hr : RdOK X.P rd) (s : St C lam ms F b a w cs) {ops : Array Oper} {i : Nat} {rest : List Nat} {o : Oper}
  (ho : ops[i]? = some o) (hd : ∀ t, o.dst = some t -> t < a.tmps.size) (hal : isAlloc o = true -> isEffAt X F.f o = true) : StepRun X.P C lam ms F b a w cs ops i rest k (boxy o.op) (stepOp X cl rd ops o F) := by
 unfold stepOp
 split
 ·trivial
 ·rename_i hg
  have hg : guardOk ops F o = true := by simpa using hg
  have hw := wanted_ok s hg
  split
  ·rename_i hwa
   rw [hwa] at hw
   split
   ·have := ef_sound (k := k) (rest := rest) hP hc hr s ho hw
    split
    ·rename_i v F' e
     rw [e] at this
     obtain ⟨C', lam', a', cs', w', u, h1, h2, h3, h4, h5, h6, h7⟩ := this
     exact ⟨C', lam', _, cs', w', h1, fin_put_op h2 hd h3 h4 h5 h6, h7⟩
    ·rename_i r hne
     revert this
     cases hr : efV X cl rd F o.dst o.op with
     | val v F' => intro _; exact absurd hr (hne v F')
     | pan v F' =>
      intro this
      obtain ⟨C', lam', a', cs', w', u, h1, h2, h3, h4, h5, h6, h7⟩ := this
      exact ⟨C', lam', a', cs', w', u, h1, h3, ⟨by rw [h2], h4, h5, h6⟩, h7⟩
     | fail => intro _; trivial
   ·rename_i hne
    split
    ·rename_i v hv
     have hna : isAlloc o = false := by
      cases h : isAlloc o with
      | false => rfl
      | true => exact absurd (hal h) hne
     obtain ⟨u, w', C', h1, h2, h3, h4⟩ := rd_sound s hna hv
     have hdf : ∀ c, o.op ≠ .defer c := fun c e => by rw [e] at hv; simp [rdV] at hv
     exact ⟨C', lam, _, cs, w', .one (stepA_value ho hw hdf h1), fin_put_op rfl hd h2 h3 h4 (.refl b cs), fun _ => rfl⟩
    ·trivial
  ·rename_i hwa
   have hwf : wantedA ops F o = false := by simpa using hwa
   rw [hwf] at hw
   have hst := stepR_op_skip (P := X.P) (b := b) (a := a) (k := k) (cs := cs) (w := w) (ops := ops) (i := i) (rest := rest) (by rw [ho]; simp [hw])
   rw [ho] at hst
   exact ⟨C, lam, _, cs, w, .one hst, fin_put_op rfl hd (SR.of (VRundef C)) s (.refl _ _ _ _) (.refl b cs), fun _ => rfl⟩
theorem runOps_ok {X : Ctx} {cl : FuncId -> List AV -> Heap -> COut} {rd : Nat -> List AV -> Heap -> COut} (hP : NoNum X.P) (hc : ClOK X.P cl) (hr : RdOK X.P rd) {ops : Array Oper} :
  ∀ (l : List Oper) (i : Nat) (C : Cfg) (lam : Nat -> Option Nat) (ms : List Nat) (F : Fr) (a : Act) (w : World) (cs : List Frame), St C lam ms F b a w cs -> (∀ j o, l[j]? = some o -> ops[i + j]? = some o) -> dstsLt a.tmps.size l = true ->
   Outs X.P (lone (b.atR a (.inRegion ops (List.range' i l.length) :: k)) cs w) C lam ms F b a w cs k (runOps X cl rd ops l F) := by
 intro l
 induction l with
 | nil => intro i C lam ms F a w cs s _ _; exact ⟨C, lam, ms, a, cs, w, .one stepR_region_end, .refl s⟩
 | cons o l ih =>
  intro i C lam ms F a w cs s hl hd
  simp only [dstsLt, List.all_cons, Bool.and_eq_true] at hd
  have ho : ops[i]? = some o := by have := hl 0 o rfl; simpa using this
  have hdst : ∀ t, o.dst = some t -> t < a.tmps.size := fun t e => by have := hd.1; rw [e] at this; simpa using this
  have h1 := stepOp_ok (X := X) (k := k) (rest := List.range' (i + 1) l.length) hP hc hr s ho hdst (fun h => by
   unfold isAlloc at h
   unfold isEffAt
   split at h
   ·rename_i t e; rw [e]
   ·cases h)
  simp only [runOps, List.length_cons, List.range'_succ]
  split
  ·rename_i v F' e
   rw [e] at h1
   obtain ⟨C', lam', a', cs', w', h2, h3, _⟩ := h1
   refine Outs.head h2 h3 (ih (i + 1) C' lam' ms F' a' w' cs' h3.2.1 (fun j o' hj => by
    have := hl (j + 1) o' (by simpa using hj)
    rwa [show i + (j + 1) = i + 1 + j from by omega] at this) (by rw [h3.1]; exact hd.2))
  ·rename_i v F' e
   rw [e] at h1
   obtain ⟨C', lam', a', cs', w', u, h2, h4, h3, _⟩ := h1
   exact ⟨C', lam', ms, a', cs', w', _, u, h2, h4, h3⟩
  ·trivial
end
end Go.AM
namespace Go.AM
open Go
variable [Keep]
section
variable {P : Program} {w w' : World} {C : Cfg} {lam : Nat -> Option Nat} {ms : List Nat} {F : Fr} {b : Frame} {a : Act} {cs : List Frame} {k : List Item}
theorem Ext.close {C C' : Cfg} {h h' : Heap} {w w' : World} {O O' : Nat -> Prop} (e : Ext C h O w C' h' O' w') (hO : ∀ β, ¬ O β) : Ext C h (fun _ => False) w C' h' (fun _ => False) w' where
 le := e.le
 os := e.os
 tape := e.tape
 output := e.output
 size := e.size
 same β hb hl _ := e.same β hb hl (hO β)
 live β hb l := (e.live β hb l).imp id fun o => (hO β o).elim
 own _ _ o := o.elim
 sig x v hb s := by
  rcases e.sig x v hb s with s | l | o
  ·exact .inl s
  ·exact .inr (.inl l)
  ·exact (hO _ o).elim
 next := e.next
theorem own_none (β : Nat) : ¬ Own (fun _ => none) [] β := by
 rintro (⟨s, h⟩ | h)
 ·cases h
 ·simp at h
def Frozen (C : Cfg) (h : Heap) (w : World) (v' : AV) (u : Value) (h' : Heap) : Prop := ∃ C', VR C' v' u /\ WR C' h' w /\ Ext C h (fun _ => False) w C' h' (fun _ => False) w
def sigOver (C : Cfg) (B : Nat) (c : Array Value) : Cfg := { C with sig := fun x => if x.block = B /\ x.spot = none then c[x.off]? else C.sig x }
theorem frz1_ok {h h' : Heap} {v v' : AV} {u : Value} (r : WR C h w) (hv : VR C v u) (h1 : frz1 h v = some (v', h')) : Frozen C h w v' u h' := by
  unfold frz1 at h1
  split at h1
  · rename_i id off len
    split at h1
    · rename_i sz el hg
      split at h1
      · rename_i hle
        cases h1
        obtain ⟨L, e1, c, f1, f2, f3, f4, f5⟩ := r.blk id _ hg
        have hlv : Live C h L.b := ⟨id, _, L, hg, e1, rfl⟩
        have hCle : C.le (sigOver C L.b c) := ⟨fun _ _ h => h, fun x y hx => by
          have := r.apart id _ L x y hg e1 hx
          simp only [sigOver]
          rw [if_neg (fun e => this e.1)]
          exact hx⟩
        obtain ⟨r1, x1⟩ := WR.del r id
        have hget : ∀ j bj, (h.del id).get j = some bj -> j ≠ id /\ h.get j = some bj := fun j bj hj => by
          rw [Heap.get_del] at hj
          split at hj
          · cases hj
          · rename_i hne; exact ⟨fun e => hne e.symm, hj⟩
        refine ⟨sigOver C L.b c, ?_, ⟨fun x y hx => ?_, fun j bj hj => ?_, fun j1 j2 b1 b2 L1 L2 g1 g2 => r1.inj j1 j2 b1 b2 L1 L2 g1 g2, fun j bj Lj x y hj hLj hx => ?_, r1.fresh, r.base.on hCle.sig (fun _ _ _ => rfl)⟩, ?_⟩
        · cases hv with
          | row A e2 k1 k2 k3 =>
            rename_i cap L'
            rw [e1] at e2
            cases e2
            have hlen : ((el.drop off).take len).length = len := by simp; omega
            rcases k2 with rfl | rfl
            · have : len = 0 := by omega
              subst this
              have : (el.drop off).take 0 = [] := rfl
              rw [this]
              exact .vslice0 _ _
            · have hf : FlatR (sigOver C L.b c) sz ((el.drop off).take len) c (L.o + off * sz) := fun i e hi => by
                rw [List.getElem?_take] at hi
                split at hi
                · rw [List.getElem?_drop] at hi
                  obtain ⟨q1, q2, q3⟩ := f5 (off + i) e hi
                  refine ⟨q1, q2, fun j x hx => ?_⟩
                  obtain ⟨y, hy, hr⟩ := q3 j x hx
                  refine ⟨y, ?_, hr.mono hCle⟩
                  rw [<- hy, Nat.add_mul]
                  congr 1
                  omega
                · cases hi
              have hbd : L.o + off * sz + ((el.drop off).take len).length * sz <= c.size := by
                rw [hlen]
                have : (off + len) * sz <= el.length * sz := Nat.mul_le_mul_right _ hle
                rw [Nat.add_mul] at this
                omega
              have := slice_of_flat (C := sigOver C L.b c) (B := L.b) (o := L.o + off * sz) (cap := cap) hf (fun k hk => by simp [sigOver]) (by rw [hlen]; exact k1) hbd
              rw [hlen] at this
              rw [f2]
              exact this
        · simp only [sigOver] at hx
          split at hx
          · rename_i hb
            obtain ⟨xb, xo, xs⟩ := x
            simp only at hb hx
            obtain ⟨rfl, rfl⟩ := hb
            rw [f1.cell]
            exact hx
          · exact r.sig x y hx
        · obtain ⟨Lj, k1, k2⟩ := r1.blk j bj hj
          exact ⟨Lj, k1, k2.same hCle rfl⟩
        · obtain ⟨hne, hj'⟩ := hget j bj hj
          simp only [sigOver] at hx
          split at hx
          · rename_i hb
            intro e
            exact hne (r.inj j id bj _ Lj L hj' hg hLj e1 (e.symm.trans hb.1))
          · exact r.apart j bj Lj x y hj' hLj hx
        · exact { le := hCle, os := rfl, tape := rfl, output := rfl, size := Nat.le_refl _, same := fun _ _ _ _ => rfl, live := fun β hb l => x1.live β hb l, own := fun _ _ o => o.elim,
                  sig := fun x y _ hx => by
                    simp only [sigOver] at hx
                    split at hx
                    · rename_i hb; exact .inr (.inl (hb.1 ▸ hlv))
                    · exact .inl hx, next := Nat.le_refl _ }
      · cases h1
    · cases h1
  · cases h1
    exact ⟨C, hv, r, .refl _ _ _ _⟩
theorem frzCells_ok {f : Heap -> AV -> Option (AV × Heap)} (hf : ∀ (C : Cfg) (h h' : Heap) (v v' : AV) (u : Value), WR C h w -> VR C v u -> f h v = some (v', h') -> Frozen C h w v' u h') :
    ∀ (l l' : List AV) (C : Cfg) (h h' : Heap) (us : Array Value), WR C h w -> VRs C l us -> frzCells h f l = some (l', h') -> ∃ C', VRs C' l' us /\ WR C' h' w /\ Ext C h (fun _ => False) w C' h' (fun _ => False) w /\ l'.length = l.length := by
  intro l
  induction l with
  | nil => intro l' C h h' us r hv e; simp [frzCells] at e; obtain ⟨rfl, rfl⟩ := e; exact ⟨C, hv, r, .refl _ _ _ _, rfl⟩
  | cons x l ih =>
    intro l' C h h' us r hv e
    simp only [frzCells] at e
    split at e
    · rename_i v1 h1 e1
      split at e
      · rename_i l1 h2 e2
        cases e
        obtain ⟨u0, hu0, r0⟩ := hv.get (i := 0) rfl
        obtain ⟨C1, q1, q2, q3⟩ := hf C h h1 x v1 u0 r r0 e1
        have hne : 0 < us.size := by rw [hv.1]; simp
        have htl : VRs C l (us.extract 1 us.size) := by
          refine VRs.of_get (by simp [hv.1]) fun i y hy => ?_
          obtain ⟨u, hu, hr⟩ := hv.get (i := i + 1) (by simpa using hy)
          refine ⟨u, ?_, hr⟩
          rw [Array.getElem?_extract, if_pos (by have := lt_of_get hy; rw [hv.1]; simp; omega), Nat.add_comm]
          exact hu
        obtain ⟨C2, p1, p2, p3, p4⟩ := ih l1 C1 h1 h' _ q2 (htl.mono q3.le) e2
        refine ⟨C2, ?_, p2, q3.trans p3, by simp [p4]⟩
        have := VRs.cons (q1.mono p3.le) p1
        have e3 : #[u0] ++ us.extract 1 us.size = us := by
          have h0 : us[0]'hne = u0 := by rw [Array.getElem?_eq_getElem hne] at hu0; simpa using hu0
          apply Array.ext'
          have hl : us.toList = us[0]'hne :: us.toList.drop 1 := by
            cases hus : us.toList with
            | nil => have : us.size = 0 := by rw [<- Array.length_toList, hus]; rfl
                     omega
            | cons y r => have : us[0]'hne = y := by simp [<- Array.getElem_toList, hus]
                          rw [this]; rfl
          simp [h0]
          rw [hl, h0]
          simp [List.take_of_length_le]
        rw [e3] at this
        exact this
      · cases e
    · cases e
theorem frzCells_one {h h' : Heap} : ∀ {l l' : List AV} {h h' : Heap}, frzCells h frz1 l = some (l', h') -> (∀ x ∈ l, x.one = true) -> ∀ x ∈ l', x.one = true := by
 intro l
 induction l with
 | nil => intro l' h h' e _; simp [frzCells] at e; obtain ⟨rfl, rfl⟩ := e; simp
 | cons x l ih =>
  intro l' h h' e h1
  simp only [frzCells] at e
  split at e
  ·rename_i v1 h1' e1
   split at e
   ·rename_i l1 h2 e2
    cases e
    have hx := h1 x (by simp)
    have hv1 : v1.one = true := by
     unfold frz1 at e1
     split at e1
     ·split at e1
      ·split at e1
       ·cases e1; rfl
       ·cases e1
      ·cases e1
     ·cases e1; exact hx
    intro y hy
    rcases List.mem_cons.1 hy with rfl | hy
    ·exact hv1
    ·exact ih e2 (fun z hz => h1 z (by simp [hz])) y hy
   ·cases e
  ·cases e
theorem frz2_ok (C : Cfg) (h h' : Heap) (v v' : AV) (u : Value) (r : WR C h w) (hv : VR C v u) (h1 : frz2 h v = some (v', h')) : Frozen C h w v' u h' := by
 unfold frz2 at h1
 split at h1
 ·rename_i cs
  split at h1
  ·rename_i l h2 e
   cases h1
   obtain ⟨us, rfl, rv, ro⟩ := hv.agg_inv
   obtain ⟨C', q1, q2, q3, _⟩ := frzCells_ok (w := w) (fun C h h' v v' u r hv e => frz1_ok r hv e) _ _ C h h' us r rv e
   exact ⟨C', .agg q1.1 q1.2 (frzCells_one (h := h) (h' := h') e ro), q2, q3⟩
  ·cases h1
 ·exact frz1_ok r hv h1
theorem VR.tuple_inv {l : List AV} {v : Value} (h : VR C (.tuple l) v) : ∃ vs, v = .tuple vs /\ VRs C l vs := by
 cases h with
 | tuple h1 h2 => exact ⟨_, rfl, h1, h2⟩
theorem freeze_ok {h h' : Heap} {v v' : AV} {u : Value} (r : WR C h w) (hv : VR C v u) (h1 : freeze h v = some (v', h')) : Frozen C h w v' u h' := by
 unfold freeze at h1
 split at h1
 ·rename_i vs
  split at h1
  ·rename_i l h2 e
   cases h1
   obtain ⟨us, rfl, rv⟩ := hv.tuple_inv
   obtain ⟨C', q1, q2, q3, _⟩ := frzCells_ok (w := w) (fun C h h' v v' u r hv e => frz2_ok C h h' v v' u r hv e) _ _ C h h' us r rv e
   exact ⟨C', .tuple q1.1 q1.2, q2, q3⟩
  ·cases h1
 ·exact frz2_ok C h h' v v' u r hv h1
end
end Go.AM
namespace Go.AM
open Go
variable [Keep]
section
variable {P : Program} {w w' : World} {C : Cfg} {lam : Nat -> Option Nat} {ms : List Nat} {F : Fr} {b : Frame} {a : Act} {cs : List Frame} {k : List Item}
def resM (tmps : Array Value) : ResultVar -> Sem Value
 | .tmp t => pure (tmps.getD t undef)
 | .cell a t => do loadVar t (<- asAddr (tmps.getD a undef))
theorem resultV_ok (s : St C lam ms F b a w cs) {r : ResultVar} {v : AV} (h : resultV P F r = some v) : ∃ u, (resM a.tmps r).run P w = .ok u w /\ VR C v u := by
 cases r with
 | tmp t => exact ⟨_, rfl, s.opv (x := .tmp t) h⟩
 | cell x t =>
  simp only [resultV] at h
  split at h
  ·rename_i cells off hm
   obtain ⟨B, O, e, hr⟩ := s.mem (s.env x) hm
   obtain ⟨u, h1, h2⟩ := run_loadVar (P := P) hr h
   refine ⟨u, ?_, h2⟩
   simp only [resM, e, asAddr, Sem.run_bind, Sem.run_pure, Result.andThen_ok, h1]
  ·cases h
theorem resultsV_ok (s : St C lam ms F b a w cs) : ∀ (rs : List ResultVar) (l : List AV), resultsV P F rs = some l -> ∃ us : List Value, (rs.mapM (resM a.tmps)).run P w = .ok us w /\ VRs C l us.toArray := by
 intro rs
 induction rs with
 | nil => intro l h; simp [resultsV] at h; subst h; exact ⟨[], rfl, VRs.nil C⟩
 | cons r rs ih =>
  intro l h
  simp only [resultsV] at h
  split at h
  ·rename_i v l' h1 h2
   cases h
   obtain ⟨u, q1, q2⟩ := resultV_ok s h1
   obtain ⟨us, p1, p2⟩ := ih l' h2
   refine ⟨u :: us, ?_, by simpa using VRs.cons q2 p2⟩
   simp [List.mapM_cons, q1, p1]
  ·cases h
theorem results_ok (s : St C lam ms F b a w cs) {fn : Func} {l : List AV} (h : resultsV P F fn.results.toList = some l) : ∃ u, (results fn a.tmps).run P w = .ok u w /\ VR C (tupleOf l) u := by
 obtain ⟨us, h1, h2⟩ := resultsV_ok s _ _ h
 have hm : (fn.results.mapM (resM a.tmps)).run P w = .ok us.toArray w := by
  rw [Array.mapM_eq_mapM_toList]
  simp only [Sem.run_map, h1, Result.andThen_ok]
 have hres : (results fn a.tmps).run P w = .ok (if h : us.toArray.size = 1 then us.toArray[0] else .tuple us.toArray) w := by
  have e : results fn a.tmps = (do let vs <- fn.results.mapM (resM a.tmps); pure (if h : vs.size = 1 then vs[0] else .tuple vs)) := by
   unfold results
   have : (fun r : ResultVar => (match r with | .tmp t => pure (a.tmps.getD t undef) | .cell x t => do loadVar t (<- asAddr (a.tmps.getD x undef)) : Sem Value)) = resM a.tmps := by
    funext r
    cases r <;> rfl
   rw [<- this]
   rfl
  rw [e]
  simp only [Sem.run_bind, hm, Result.andThen_ok, Sem.run_pure]
 refine ⟨_, hres, ?_⟩
 match l, us, h2 with
 | [], us, h2 =>
  have : us = [] := List.eq_nil_of_length_eq_zero (by simpa using h2.1)
  subst this
  exact .tuple rfl (fun i hi => by simp at hi)
 | [x], us, h2 =>
  obtain ⟨y, rfl⟩ := List.length_eq_one_iff.1 (show us.length = 1 by simpa using h2.1)
  have := h2.2 0 (by simp)
  simpa [tupleOf] using this
 | x :: y :: r, us, h2 =>
  have hne : ¬ us.toArray.size = 1 := by have := h2.1; simp at this ⊢; omega
  rw [dif_neg hne]
  exact .tuple h2.1 h2.2
theorem St.takeMark {r : Nat} {d : Deferred} {ds : List Deferred} (s : St C lam (r :: ms) F b a w cs) (hdf : DfR C F.df ds ms) :
    (Instr.takeDeferred r).run P w = .ok [] { w with heap := w.heap.setIfInBounds r (.deferred none) } /\
    St C lam ms F b { a with defers := ds } { w with heap := w.heap.setIfInBounds r (.deferred none) } cs /\
    Ext C F.hp (Own lam (r :: ms)) w C F.hp (Own lam ms) { w with heap := w.heap.setIfInBounds r (.deferred none) } := by
  have hm := s.mark r (by simp)
  have hown : Own lam (r :: ms) r := .inr (by simp)
  have hsub : ∀ β, Own lam ms β -> Own lam (r :: ms) β := fun β h => h.imp id (List.mem_cons_of_mem _)
  have hne : ∀ β, β ≠ r -> (w.heap.setIfInBounds r (.deferred none))[β]? = w.heap[β]? := fun β h => heap_set_other h
  have hnd := List.nodup_cons.1 s.nodup
  refine ⟨?_, ?_, ?_⟩
  · simp only [Instr.takeDeferred, Sem.run_bind, run_getObj hm (fun _ _ _ h => by cases h), Result.andThen_ok, run_setObj hm (fun _ _ _ h => by cases h), Sem.run_pure]
  · refine { wr := ⟨fun x v h => ?_, fun id blk h => ?_, s.wr.inj, s.wr.apart, s.wr.fresh, s.wr.base.on (fun _ _ e => e) (fun x v e => hne _ (s.osig r x v hown e))⟩, env := s.env, box := fun t β ht => ?_, inj := s.inj, mark := fun m hm' => ?_, nodup := hnd.2, live := fun β ho => s.live β (hsub β ho),
             osig := fun β x v ho => s.osig β x v (hsub β ho), df := hdf, up := s.up, fn := s.fn, rnd := s.rnd }
    · have := s.wr.sig x v h
      have hx := s.osig r x v hown h
      unfold World.cell? at this ⊢
      rw [hne _ hx]
      exact this
    · obtain ⟨L, k1, k2⟩ := s.wr.blk id blk h
      exact ⟨L, k1, k2.same (.refl C) (hne _ fun e => s.live r hown ⟨id, blk, L, h, k1, e⟩)⟩
    · obtain ⟨g, cells, c, k1, k2, k3, k4⟩ := s.box t β ht
      refine ⟨g, cells, c, k1, k2.same (hne _ fun e => ?_), k3, k4⟩
      obtain ⟨T, lo, hi, k5, _⟩ := k2
      rw [e, hm] at k5
      cases k5
    · exact (hne m fun e => hnd.1 (e ▸ hm')).trans (s.mark m (List.mem_cons_of_mem _ hm'))
  · exact { le := .refl C, os := rfl, tape := rfl, output := rfl, size := by simp, same := fun β _ _ ho => hne β fun e => ho (e ▸ hown), live := fun β _ l => .inl l, own := fun β _ o => .inr (hsub β o),
            sig := fun _ _ _ h => .inl h, next := Nat.le_refl _ }
theorem unwind_marks : ∀ (ds : List Deferred) (ms : List Nat) (a : Act) (w : World) (todo : List Item) (M : FrameMode), a.defers = ds -> M ≠ .run -> F.df = [] -> St C lam ms F b a w cs ->
  ∃ w', Steps P (lone { b.atR a todo with mode := M } cs w) (lone { b.atR { a with defers := [] } todo with mode := M } cs w') /\ St C lam [] F b { a with defers := [] } w' cs /\ Ext C F.hp (Own lam ms) w C F.hp (Own lam []) w' := by
 intro ds
 induction ds with
 | nil =>
  intro ms a w todo M hd hM hF s
  have hdf := s.df
  rw [hF, hd] at hdf
  cases hdf
  obtain ⟨t, d⟩ := a
  simp only at hd
  subst hd
  exact ⟨w, .refl _ _, s, .refl _ _ _ _⟩
 | cons d ds ih =>
  intro ms a w todo M hd hM hF s
  have hdf := s.df
  rw [hF, hd] at hdf
  cases hdf with
  | mark r hr =>
   rename_i ms
   have hr' : DfR C F.df ds ms := by rw [hF]; exact hr
   obtain ⟨h1, h2, h3⟩ := s.takeMark (P := P) (d := { target := .collected r, args := #[] }) hr'
   obtain ⟨w', q1, q2, q3⟩ := ih ms { a with defers := ds } _ todo M rfl hM hF h2
   refine ⟨w', .head (step_collected (fr := { b.atR a todo with mode := M }) (d := { target := .collected r, args := #[] }) hM hd rfl h1) q1, q2, h3.trans q3⟩
def entryFr (f : FuncId) (args : List AV) (h : Heap) (up : Option (AV × Bool)) : Fr := { f, rnd := false, e := entryEnv args 0 .nil, lm := .nil, hp := h, df := [], up }
def entryB (f : FuncId) (kind : CallKind) : Frame := { (default : Frame) with fn := f, kind := kind, roundOf := none }
def entryA (fn : Func) (vs : Array Value) : Act := { tmps := vs ++ Array.replicate (fn.ntmps - vs.size) undef, defers := [] }
theorem entryEnv_get : ∀ (args : List AV) (i : Nat) (e : Mp AV) (t : Nat), (entryEnv args i e).get t = if i <= t /\ t < i + args.length then args[t - i]? else e.get t := by
 intro args
 induction args with
 | nil => intro i e t; simp [entryEnv]; omega
 | cons v r ih =>
  intro i e t
  simp only [entryEnv, ih, Mp.get_set, List.length_cons]
  by_cases h1 : t = i
  ·subst h1
   rw [if_neg (by omega), if_pos rfl, if_pos (by omega)]
   simp
  ·by_cases h2 : i + 1 <= t /\ t < i + 1 + r.length
   ·rw [if_pos h2, if_pos (by omega), show t - i = t - (i + 1) + 1 from by omega]
    simp
   ·rw [if_neg h2, if_neg (fun e => h1 e.symm), if_neg (by omega)]
theorem St.entry {h : Heap} (r : WR C h w) {args : List AV} {vs : Array Value} (hv : VRs C args vs) {fn : Func} {f : FuncId} {kind : CallKind} {up : Option (AV × Bool)} (hup : UpR C kind up cs) :
  St C (fun _ => none) [] (entryFr f args h up) (entryB f kind) (entryA fn vs) w cs where
 wr := r
 env t := by
  show SR C _ _ (Fr.tmp _ t) _
  unfold Fr.tmp
  simp only [entryFr, entryEnv_get, Mp.get_nil, Nat.zero_add, Nat.zero_le, true_and, Nat.sub_zero]
  have hsz : vs.size = args.length := hv.1
  by_cases ht : t < args.length
  ·rw [if_pos ht]
   have hlt : t < vs.size := Nat.lt_of_lt_of_eq ht hsz.symm
   have hv' := hv.2 t ht
   have e1 : args[t]? = some args[t] := by simp [ht]
   have e2 : args.getD t .junk = args[t] := by simp [List.getD, ht]
   have e3 : (entryA fn vs).tmps.getD t undef = vs.getD t undef := by
    simp [entryA, Array.getD_eq_getD_getElem?, Array.getElem?_append, hlt]
   rw [e1, e3]
   rw [e2] at hv'
   exact SR.of hv'
  ·rw [if_neg ht]
   have e3 : (entryA fn vs).tmps.getD t undef = undef := by
    simp only [entryA, Array.getD_eq_getD_getElem?, Array.getElem?_append]
    rw [if_neg (fun e => ht (Nat.lt_of_lt_of_eq e hsz))]
    cases h : (Array.replicate (fn.ntmps - vs.size) undef)[t - vs.size]? with
    | none => rfl
    | some u =>
     rw [Array.getElem?_replicate] at h
     split at h
     ·cases h; rfl
     ·cases h
   rw [e3]
   exact SR.of (VRundef C)
 box s β h := by cases h
 inj s s' β h := by cases h
 mark r h := by simp at h
 nodup := by simp
 live β o := (own_none β o).elim
 osig β x v o := (own_none β o).elim
 df := .nil
 up := hup
 fn := rfl
 rnd := rfl
theorem bodyV_ok {X : Ctx} {ev : Code -> Fr -> Out} (hev : CodeOK X.P ev) {h : Heap} (r : WR C h w) {args : List AV} {vs : Array Value} (hv : VRs C args vs) {f : FuncId} {kind : CallKind} {up : Option (AV × Bool)} (hup : UpR C kind up cs)
  (hne : bodyV X ev f args h up ≠ .fail) : ∃ fn, X.P.funcs[f]? = some fn /\ fn.body.isSome = true /\
   Outs X.P (lone (Frame.enter X.P f vs kind) cs w) C (fun _ => none) [] (entryFr f args h up) (entryB f kind) (entryA fn vs) w cs [] (bodyV X ev f args h up) := by
 cases hf : X.P.funcs[f]? with
 | none => exact absurd (by unfold bodyV; rw [hf]) hne
 | some fn =>
  cases hb : fn.body with
  | none => exact absurd (by unfold bodyV; rw [hf]; simp only [hb]) hne
  | some c =>
   by_cases hok : fn.ntmps < args.length \/ codeOk fn.ntmps c = false
   ·exact absurd (by unfold bodyV; rw [hf]; simp only [hb]; rw [if_pos hok]) hne
   ·have hbv : bodyV X ev f args h up = ev c (entryFr f args h up) := by
     unfold bodyV; rw [hf]; simp only [hb]; rw [if_neg hok]; rfl
    have hc : codeOk fn.ntmps c = true := by
     cases h : codeOk fn.ntmps c with
     | true => rfl
     | false => exact absurd (.inr h) hok
    have hn : args.length <= fn.ntmps := by
     rcases Nat.lt_or_ge fn.ntmps args.length with h | h
     ·exact absurd (.inl h) hok
     ·exact h
    have hsz : vs.size = args.length := hv.1
    have hsize : (entryA fn vs).tmps.size = fn.ntmps := by simp [entryA]; omega
    have he : Frame.enter X.P f vs kind = (entryB f kind).atR (entryA fn vs) [.code c] := by
     simp [Frame.enter, Frame.atR, hf, hb, entryB, entryA]
    refine ⟨fn, rfl, by rw [hb]; rfl, ?_⟩
    rw [he, hbv]
    exact hev c (entryFr f args h up) C (fun _ => none) [] (entryB f kind) (entryA fn vs) w cs [] (St.entry r hv hup) (by rw [hsize]; exact hc)
theorem body_end {m : Machine} {o : Out} {F1 : Fr} (hb : b.roundOf = none) (ho : o = .norm F1 \/ o = .ret F1) (h : Outs P m C lam ms F b a w cs [] o) :
  ∃ C' lam' ms' a' cs' w' todo, Steps P m (lone { b.atR a' todo with mode := .returning } cs' w') /\ Fin C lam ms F b a w cs F1 C' lam' ms' a' cs' w' := by
 rcases ho with rfl | rfl
 ·obtain ⟨C', lam', ms', a', cs', w', h1, h2⟩ := h
  exact ⟨C', lam', ms', a', cs', w', _, h1.trans (.one (stepR_end hb)), h2⟩
 ·obtain ⟨C', lam', ms', a', cs', w', k1, h1, h2⟩ := h
  exact ⟨C', lam', ms', a', cs', w', _, h1.trans (.one (stepR_ret hb)), h2⟩
def ModeR (C : Cfg) (st : Option AV) (M : FrameMode) : Prop :=
 match st with
 | none => M = .returning
 | some v => ∃ u, M = Pan u /\ VR C v u
theorem ModeR.mono {C D : Cfg} (hle : C.le D) {st : Option AV} {M : FrameMode} (h : ModeR C st M) : ModeR D st M := by
 cases st with
 | none => exact h
 | some v => obtain ⟨u, h1, h2⟩ := h; exact ⟨u, h1, h2.mono hle⟩
theorem ModeR.run {st : Option AV} {M : FrameMode} (h : ModeR C st M) : M ≠ .run := by
 cases st with
 | none => intro e; rw [show M = .returning from h] at e; cases e
 | some v => obtain ⟨u, h1, _⟩ := h; rw [h1]; intro e; cases e
end
end Go.AM
namespace Go.AM
open Go
variable [Keep]
section
variable {P : Program} {w w' : World} {C : Cfg} {lam : Nat -> Option Nat} {ms : List Nat} {F : Fr} {b : Frame} {a : Act} {cs : List Frame} {k : List Item}
theorem dbodyV_ok {X : Ctx} {ev : Code -> Fr -> Out} (hev : CodeOK X.P ev) {h : Heap} (r : WR C h w) {args : List AV} {vs : Array Value} (hv : VRs C args vs) {f : FuncId} {kind : CallKind} {up : Option (AV × Bool)} (hup : UpR C kind up cs)
  (hne : dbodyV X ev f args h up ≠ .fail) : ∃ fn, X.P.funcs[f]? = some fn /\ fn.body.isSome = true /\ fn.results = #[] /\
   Outs X.P (lone (Frame.enter X.P f vs kind) cs w) C (fun _ => none) [] (entryFr f args h up) (entryB f kind) (entryA fn vs) w cs [] (dbodyV X ev f args h up) := by
 cases hf : X.P.funcs[f]? with
 | none => exact absurd (by unfold dbodyV; rw [hf]) hne
 | some fn =>
  by_cases he : fn.results.isEmpty = true
  ·have e : dbodyV X ev f args h up = bodyV X ev f args h up := by unfold dbodyV; rw [hf]; simp only [he, if_true]
   rw [e] at hne ⊢
   obtain ⟨fn', h1, h2, h3⟩ := bodyV_ok (cs := cs) hev r hv hup hne
   rw [hf] at h1
   cases h1
   exact ⟨fn, rfl, h2, by simpa using he, h3⟩
  ·exact absurd (by unfold dbodyV; rw [hf]; simp only [he]; rfl) hne
theorem deferred_ok {X : Ctx} {ev : Code -> Fr -> Out} (hev : CodeOK X.P ev) (hP : NoNum X.P) {h : Heap} (r : WR C h w) {args : List AV} {vs : Array Value} (hv : VRs C args vs) {g : FuncId} {st : Option AV} {c : Frame} (hM : ModeR C st c.mode) {F1 : Fr}
  (ho : dbodyV X ev g args h (st.map fun v => (v, false)) = .norm F1 \/ dbodyV X ev g args h (st.map fun v => (v, false)) = .ret F1) (hdf : F1.df = []) :
  (∃ fn, X.P.funcs[g]? = some fn /\ fn.body.isSome = true) /\ ∃ C' w' M', Steps X.P (lone (Frame.enter X.P g vs .deferred) (c :: cs) w) (lone { c with mode := M' } cs w') /\ ModeR C' (stillUp F1.up) M' /\ WR C' F1.hp w' /\ Ext C h (fun _ => False) w C' F1.hp (fun _ => False) w' := by
 have hup : UpR C .deferred (st.map fun v => (v, false)) (c :: cs) := by
  cases st with
  | none => exact .inr ⟨rfl, c, cs, rfl, hM⟩
  | some v =>
   obtain ⟨u, h1, h2⟩ := hM
   exact ⟨rfl, c, cs, u, rfl, h1, h2⟩
 have hne : dbodyV X ev g args h (st.map fun v => (v, false)) ≠ .fail := by rcases ho with ho | ho <;> rw [ho] <;> intro e <;> cases e
 obtain ⟨fn, hf, hb, hres, houts⟩ := dbodyV_ok (cs := c :: cs) hev r hv hup hne
 refine ⟨⟨fn, hf, hb⟩, ?_⟩
 obtain ⟨C', lam', ms', a', cs', w', todo, h1, h2, h3, h4, h5⟩ := body_end rfl ho houts
 obtain ⟨w2, q1, q2, q3⟩ := unwind_marks (P := X.P) a'.defers ms' a' w' todo .returning rfl (by intro e; cases e) hdf h3
 have hcs : ∃ m, cs' = { c with mode := m } :: cs := by
  rcases h5 with rfl | ⟨_, c', rest, m, e, rfl⟩
  ·exact ⟨c.mode, rfl⟩
  ·cases e; exact ⟨m, rfl⟩
 obtain ⟨m, rfl⟩ := hcs
 have hgo : Frame.going X.P { (entryB g .deferred).atR { a' with defers := [] } todo with mode := .returning } w2 (.returned (.tuple #[])) := by
  refine ⟨rfl, rfl, fn, hf, ?_⟩
  simp [results, hres, Frame.atR]
 have hst := step_going_returned (P := X.P) (c := { c with mode := m }) (cs := cs) (w := w2) (fr := { (entryB g .deferred).atR { a' with defers := [] } todo with mode := .returning }) rfl hgo
 have hup' := q2.up
 have hset : ModeR C' (stillUp F1.up) (settle m) := by
  cases hF : F1.up with
  | none =>
   rw [hF] at hup'
   rcases hup' with h | ⟨_, c', rest, e, h⟩
   ·cases h
   ·cases e
    show settle m = .returning
    rw [show m = .returning from h]
    rfl
  | some p =>
   obtain ⟨v, rec⟩ := p
   rw [hF] at hup'
   obtain ⟨_, c', rest, u, e, h, hr⟩ := hup'
   cases e
   have h : m = .panicking [{ v := u, recovered := rec, goexit := false }] := h
   rw [h]
   cases rec with
   | true => rfl
   | false => exact ⟨u, rfl, hr⟩
 refine ⟨C', w2, settle m, h1.trans (q1.trans (.one hst)), hset, q2.wr, ?_⟩
 exact (h4.trans q3).close own_none
def Unw (P : Program) (lam : Nat -> Option Nat) (ms : List Nat) (b : Frame) (a : Act) (todo : List Item) (M : FrameMode) (cs : List Frame) (C : Cfg) (F : Fr) (w : World) (h' : Heap) (st' : Option AV) : Prop :=
 ∃ C' w' M', Steps P (lone { b.atR a todo with mode := M } cs w) (lone { b.atR { a with defers := [] } todo with mode := M' } cs w') /\ St C' lam [] { F with hp := h', df := [] } b { a with defers := [] } w' cs /\
  Ext C F.hp (Own lam ms) w C' h' (Own lam []) w' /\ ModeR C' st' M'
theorem unwind_ok {X : Ctx} {ev : Code -> Fr -> Out} (hev : CodeOK X.P ev) (hP : NoNum X.P) : ∀ (ds : List Deferred) (C : Cfg) (ms : List Nat) (F : Fr) (a : Act) (w : World) (todo : List Item) (M : FrameMode) (st st' : Option AV) (h' : Heap), a.defers = ds -> St C lam ms F b a w cs -> ModeR C st M ->
  deferV X ev F.df F.hp st = some (h', st') ->
  Unw X.P lam ms b a todo M cs C F w h' st' := by
 intro ds
 induction ds with
 | nil =>
  intro C ms F a w todo M st st' h' hd s hM hdv
  have hdf := s.df
  rw [hd] at hdf
  generalize hF : F.df = df at hdf hdv
  cases hdf
  simp only [deferV, Option.some.injEq, Prod.mk.injEq] at hdv
  obtain ⟨rfl, rfl⟩ := hdv
  obtain ⟨t, d⟩ := a
  simp only at hd
  subst hd
  obtain ⟨f, rnd, e, lm, hp, df, up⟩ := F
  simp only at hF
  subst hF
  exact ⟨C, w, M, .refl _ _, s, .refl _ _ _ _, hM⟩
 | cons d ds ih =>
  intro C ms F a w todo M st st' h' hd s hM hdv
  have hdf := s.df
  rw [hd] at hdf
  generalize hF : F.df = df at hdf hdv
  cases hdf with
  | mark r hr =>
   rename_i ms
   have hr' : DfR C F.df ds ms := by rw [hF]; exact hr
   obtain ⟨h1, h2, h3⟩ := s.takeMark (P := X.P) (d := { target := .collected r, args := #[] }) hr'
   obtain ⟨C', w', M', q1, q2, q3, q4⟩ := ih C ms F { a with defers := ds } _ todo M st st' h' rfl h2 hM (by rw [hF]; exact hdv)
   exact ⟨C', w', M', .head (step_collected (fr := { b.atR a todo with mode := M }) (d := { target := .collected r, args := #[] }) hM.run hd rfl h1) q1, q2, h3.trans q3, q4⟩
  | fn hr hv1 hv2 =>
   rename_i df0 g first capt args vs ws
   have hvs := hv1.append hv2
   have main : ∀ F1, (dbodyV X ev g ((first ++ args) ++ capt) F.hp (st.map fun v => (v, false)) = .norm F1 \/ dbodyV X ev g ((first ++ args) ++ capt) F.hp (st.map fun v => (v, false)) = .ret F1) -> F1.df.isEmpty = true ->
     deferV X ev df0 F1.hp (stillUp F1.up) = some (h', st') -> Unw X.P lam ms b a todo M cs C F w h' st' := fun F1 ho he hrest => by
    have hdf0 : F1.df = [] := by simpa using he
    obtain ⟨⟨fn, hfn, hb⟩, C1, w1, M1, p1, p2, p3, p4⟩ := deferred_ok (cs := cs) (c := { b.atR { a with defers := ds } todo with mode := M }) hev hP s.wr hvs hM ho hdf0
    have s1 : St C lam ms { F with df := df0 } b { a with defers := ds } w cs := { s with df := hr }
    have s2 := s1.later p3 p4
    obtain ⟨C', w', M', q1, q2, q3, q4⟩ := ih C1 ms { F with df := df0, hp := F1.hp } { a with defers := ds } w1 todo M1 (stillUp F1.up) st' h' rfl s2 p2 hrest
    have hstep := step_defer (P := X.P) (fr := { b.atR a todo with mode := M }) (cs := cs) (w := w) (d := { target := .fn (.func g) ws, args := vs }) (ds := ds) (fv := .func g) (cap := ws) (f := g) (args := vs ++ ws) hM.run hd rfl
     (by simp only [invoke, run_callFunc hP hfn hb])
    exact ⟨C', w', M', .head hstep (p1.trans q1), q2, (p4.wide _).trans q3, q4⟩
   simp only [deferV] at hdv
   split at hdv
   ·rename_i F1 e
    split at hdv
    ·rename_i he; exact main F1 (.inl e) he hdv
    ·cases hdv
   ·rename_i F1 e
    split at hdv
    ·rename_i he; exact main F1 (.inr e) he hdv
    ·cases hdv
   ·cases hdv
def Left (P : Program) (f : FuncId) (C : Cfg) (h : Heap) (w : World) (m : Machine) (cs : List Frame) : COut -> Prop
 | .ret v h' _ => ∃ C' w' fr u, Steps P m (lone fr cs w') /\ fr.leaving P w' (.returned u) /\ fr.fn = f /\ VR C' v u /\ WR C' h' w' /\ Ext C h (fun _ => False) w C' h' (fun _ => False) w'
 | .pan v h' _ => ∃ C' w' fr u, Steps P m (lone fr cs w') /\ fr.leaving P w' (.panicked [{ v := u, recovered := false }]) /\ fr.fn = f /\ VR C' v u /\ WR C' h' w' /\ Ext C h (fun _ => False) w C' h' (fun _ => False) w'
 | .fail => True
theorem Left.answered {f : FuncId} {h : Heap} {m : Machine} {c : Frame} {r : COut} (h1 : Left P f C h w m (c :: cs) r) : Answered P C h w m c cs r := by
 cases r with
 | ret v h' up => obtain ⟨C', w', fr, u, q1, q2, _, q3⟩ := h1; exact ⟨C', w', u, q1.trans (.one (step_leave_returned q2)), q3⟩
 | pan v h' up => obtain ⟨C', w', fr, u, q1, q2, _, q3⟩ := h1; exact ⟨C', w', u, q1.trans (.one (step_leave_panicked q2)), q3⟩
 | fail => trivial
def CallOK (P : Program) (cl : FuncId -> List AV -> Heap -> COut) : Prop :=
 ∀ (f : FuncId) (args : List AV) (h : Heap) (C : Cfg) (w : World) (vs : Array Value), WR C h w -> VRs C args vs -> cl f args h ≠ .fail ->
  (∃ fn, P.funcs[f]? = some fn /\ fn.body.isSome = true) /\ ∀ cs, Left P f C h w (lone (Frame.enter P f vs .normal) cs w) cs (cl f args h)
theorem CallOK.cl {cl : FuncId -> List AV -> Heap -> COut} (h : CallOK P cl) : ClOK P cl := fun f args hp C w vs r hv hne =>
 ⟨(h f args hp C w vs r hv hne).1, fun c cs => ((h f args hp C w vs r hv hne).2 (c :: cs)).answered⟩
def IntrOK (X : Ctx) : Prop := ∀ (f : FuncId) (g : List AV -> Heap -> Option (AV × Heap)), X.intr f = some g -> ∀ (args : List AV) (h : Heap) (v : AV) (h' : Heap), g args h = some (v, h') ->
 ∀ (C : Cfg) (w : World) (vs : Array Value), WR C h w -> VRs C args vs -> (∃ fn, X.P.funcs[f]? = some fn /\ fn.body.isSome = true) /\ ∀ cs, Left X.P f C h w (lone (Frame.enter X.P f vs .normal) cs w) cs (.ret v h' none)
theorem resV_ok {X : Ctx} {f : FuncId} (s : St C lam [] F b a w cs) {todo : List Item} (hk : b.kind = .normal) (hfb : b.fn = f) (hd : a.defers = []) {C0 : Cfg} {h0 : Heap} {w0 : World} {m : Machine}
  (hs : Steps X.P m (lone { b.atR a todo with mode := .returning } cs w)) (hx : Ext C0 h0 (fun _ => False) w0 C F.hp (fun _ => False) w) : Left X.P f C0 h0 w0 m cs (resV X f F) := by
 unfold resV
 split
 ·trivial
 ·rename_i fn hf
  split
  ·trivial
  ·rename_i l hl
   obtain ⟨u, h1, h2⟩ := results_ok s hl
   have hlv : Frame.leaving X.P { b.atR a todo with mode := .returning } w (.returned u) := ⟨rfl, hd, hk, fn, by rw [<- hfb] at hf; exact hf, h1⟩
   unfold frzRes
   split
   ·split
    ·rename_i v' h' hfr
     obtain ⟨C', q1, q2, q3⟩ := freeze_ok s.wr h2 hfr
     exact ⟨C', w, _, u, hs, hlv, hfb, q1, q2, hx.trans q3⟩
    ·trivial
   ·exact ⟨C, w, _, u, hs, hlv, hfb, h2, s.wr, hx⟩
theorem finV_ok {X : Ctx} {ev : Code -> Fr -> Out} (hev : CodeOK X.P ev) (hP : NoNum X.P) {f : FuncId} (s : St C lam ms F b a w cs) {todo : List Item} {M : FrameMode} {st : Option AV} (hM : ModeR C st M) (hk : b.kind = .normal) (hfb : b.fn = f)
  (hfn : ∃ fn, X.P.funcs[f]? = some fn) {C0 : Cfg} {h0 : Heap} {w0 : World} {m : Machine} (hs : Steps X.P m (lone { b.atR a todo with mode := M } cs w)) (hx : Ext C0 h0 (fun _ => False) w0 C F.hp (Own lam ms) w) :
  Left X.P f C0 h0 w0 m cs (finV X ev f F st) := by
 unfold finV
 split
 ·trivial
 ·rename_i h' v hd
  obtain ⟨C', w', M', q1, q2, q3, u, rfl, q4⟩ := unwind_ok hev hP a.defers C ms F a w todo M st _ h' rfl s hM hd
  obtain ⟨fn, hfn⟩ := hfn
  exact ⟨C', w', _, u, hs.trans q1, ⟨rfl, rfl, fn, by rw [<- hfb] at hfn; exact hfn⟩, hfb, q4, q2.wr, (hx.trans q3).close fun _ o => o⟩
 ·rename_i h' hd
  obtain ⟨C', w', M', q1, q2, q3, q4⟩ := unwind_ok hev hP a.defers C ms F a w todo M st _ h' rfl s hM hd
  have q4 : M' = .returning := q4
  subst q4
  exact resV_ok q2 hk hfb rfl (hs.trans q1) ((hx.trans q3).close fun _ o => o)
theorem callF_ok {X : Ctx} {ev : Code -> Fr -> Out} (hev : CodeOK X.P ev) (hP : NoNum X.P) (hI : IntrOK X) : CallOK X.P (callF X ev) := by
  intro f args h C w vs r hv hne
  unfold callF at hne ⊢
  cases hi : X.intr f with
  | some g =>
    rw [hi] at hne
    simp only at hne ⊢
    cases hg : g args h with
    | none => rw [hg] at hne; exact absurd rfl hne
    | some p =>
      obtain ⟨v, h'⟩ := p
      exact hI f g hi args h v h' hg C w vs r hv
  | none =>
    rw [hi] at hne
    simp only at hne ⊢
    have hb : bodyV X ev f args h none ≠ .fail := fun e => by rw [e] at hne; exact absurd rfl hne
    have hup : ∀ cs, UpR C .normal none cs := fun cs => .inl rfl
    obtain ⟨fn, hf, hbd, _⟩ := bodyV_ok (cs := []) hev r hv (hup []) hb
    refine ⟨⟨fn, hf, hbd⟩, fun cs => ?_⟩
    obtain ⟨fn', hf', _, houts⟩ := bodyV_ok (cs := cs) hev r hv (hup cs) hb
    have hcs : ∀ cs', CsR (entryB f .normal) cs cs' -> cs' = cs := fun cs' h => by
      rcases h with h | ⟨h, _⟩
      · exact h
      · cases h
    have close : ∀ {C' : Cfg} {h' : Heap} {O' : Nat -> Prop} {w' : World}, Ext C h (Own (fun _ => none) []) w C' h' O' w' -> Ext C h (fun _ => False) w C' h' O' w' := fun e =>
      { le := e.le, os := e.os, tape := e.tape, output := e.output, size := e.size, same := fun β hb hl _ => e.same β hb hl (own_none β), live := fun β hb l => (e.live β hb l).imp id fun o => (own_none β o).elim,
        own := fun β hb o => (e.own β hb o).imp id fun o => (own_none β o).elim, sig := fun x v hb s => (e.sig x v hb s).imp id fun s => s.imp id fun o => (own_none _ o).elim, next := e.next }
    have ends : ∀ F1, (bodyV X ev f args h none = .norm F1 \/ bodyV X ev f args h none = .ret F1) -> Left X.P f C h w (lone (Frame.enter X.P f vs .normal) cs w) cs (finV X ev f F1 none) := fun F1 ho => by
      obtain ⟨C', lam', ms', a', cs', w', todo, h1, h2, h3, h4, h5⟩ := body_end rfl ho houts
      obtain rfl := hcs cs' h5
      exact finV_ok (M := .returning) (st := none) hev hP h3 rfl rfl rfl ⟨fn, hf⟩ h1 (close h4)
    split
    · rename_i F1 e; exact ends F1 (.inl e)
    · rename_i F1 e; exact ends F1 (.inr e)
    · rename_i v F1 e
      rw [e] at houts
      obtain ⟨C', lam', ms', a', cs', w', todo, u, h1, hr, h2, h3, h4, h5⟩ := houts
      obtain rfl := hcs cs' h5
      exact finV_ok (M := Pan u) (st := some v) hev hP h3 ⟨u, rfl, hr⟩ rfl rfl ⟨fn, hf⟩ h1 (close h4)
    · trivial
end
end Go.AM
