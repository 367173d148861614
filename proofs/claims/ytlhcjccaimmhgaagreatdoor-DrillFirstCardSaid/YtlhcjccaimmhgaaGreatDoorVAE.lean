/-
  A part of the proof: contracts of functions.
-/
import Derived.Test.YtlhcjccaimmhgaaGreatDoorVAD
set_option linter.unusedSimpArgs false
set_option linter.unusedVariables false
set_option linter.unusedSectionVars false
namespace Go.AM
open Go
variable [Keep]
theorem stepR_scope {P : Program} {b : Frame} {a : Act} {k : List Item} {cs : List Frame} {w : World} {c : Code} :
  step P (lone (b.atR a (.code (.scope c) :: k)) cs w) = .next (lone (b.atR a (.code c :: .inScope c :: k)) cs w) :=
 step_lone_go (by simp [stepG, stepG.exec, Frame.atR])
theorem stepR_inScope {P : Program} {b : Frame} {a : Act} {k : List Item} {cs : List Frame} {w : World} {c : Code} :
  step P (lone (b.atR a (.inScope c :: k)) cs w) = .next (lone (b.atR a k) cs w) :=
 step_lone_go (by simp [stepG, stepG.exec, Frame.atR])
section
variable {P : Program} {w w' : World} {C : Cfg} {lam : Nat -> Option Nat} {ms : List Nat} {F : Fr} {b : Frame} {a : Act} {cs : List Frame} {k : List Item}
theorem Ext.ahead {C C' : Cfg} {h h' : Heap} {w w' : World} {O O' : Nat -> Prop} (e : Ext C h O w C' h' O' w') (hO : ∀ β, ¬ O β) : Ext C h (fun _ => False) w C' h' O' w' where
 le := e.le
 os := e.os
 tape := e.tape
 output := e.output
 size := e.size
 same β hb hl _ := e.same β hb hl (hO β)
 live β hb l := (e.live β hb l).imp id fun o => (hO β o).elim
 own β hb o := (e.own β hb o).imp id fun o => (hO β o).elim
 sig x v hb s := (e.sig x v hb s).imp id fun s => s.imp id fun o => (hO _ o).elim
 next := e.next
theorem St.putHp (s : St C lam ms F b a w cs) {id : Nat} {blk blk' : Blk} {L : Loc} (hg : F.hp.get id = some blk) (hm : C.mu id = some L) (hs : w'.heap.size = w.heap.size) (hsame : ∀ β, β ≠ L.b -> w'.heap[β]? = w.heap[β]?)
  (hbr : BR C w' L blk') (hos : w'.os = w.os) (htp : w'.tape = w.tape) (hout : w'.output = w.output) :
  St C lam ms { F with hp := F.hp.put id blk' } b a w' cs /\ Ext C F.hp (Own lam ms) w C (F.hp.put id blk') (Own lam ms) w' := s.turn (WR.put s.wr hg hm hs hsame hbr hos htp hout)
theorem run_getLoop {l : Nat} {r : Loop} (h : w.heap[l]? = some (.loop r)) : (Instr.getLoop l).run P w = .ok r w := by
 simp only [Instr.getLoop, Sem.run_bind, run_getObj h (fun _ _ _ h => by cases h), Result.andThen_ok, Sem.run_pure]
def putMany (l : List (Tmp × Value)) (tmps : Array Value) : Array Value := l.foldl (fun tmps p => tmps.setIfInBounds p.1 p.2) tmps
theorem setParams_ok : ∀ (ps : List Tmp) (args : List AV) (vs : List Value) (e e' : Mp AV) (tmps : Array Value), setParams ps args e = some e' -> VRs C args vs.toArray -> (∀ p ∈ ps, p < tmps.size) ->
  (∀ t, SR C (fun _ => none) .nil (tmpV e t) (tmps.getD t undef)) -> ps.length = args.length /\ (putMany (ps.zip vs) tmps).size = tmps.size /\ ∀ t, SR C (fun _ => none) .nil (tmpV e' t) ((putMany (ps.zip vs) tmps).getD t undef) := by
 intro ps
 induction ps with
 | nil =>
  intro args vs e e' tmps h hv hp he
  cases args with
  | nil => simp [setParams] at h; subst h; exact ⟨rfl, rfl, he⟩
  | cons x r => simp [setParams] at h
 | cons p ps ih =>
  intro args vs e e' tmps h hv hp he
  cases args with
  | nil => simp [setParams] at h
  | cons x r =>
   simp only [setParams] at h
   cases vs with
   | nil => have := hv.1; simp at this
   | cons v vs =>
    have hx : VR C x v := by have := hv.2 0 (by simp); simpa using this
    have hr : VRs C r vs.toArray := by
     refine ⟨by have := hv.1; simp at this ⊢; omega, fun i hi => ?_⟩
     have := hv.2 (i + 1) (by simp; omega)
     simpa using this
    have hpt : p < tmps.size := hp p (by simp)
    obtain ⟨h1, h2, h3⟩ := ih r vs (e.set p x) e' (tmps.setIfInBounds p v) h hr (fun q hq => by simpa using hp q (by simp [hq])) (fun t => by
     rw [getD_set _ _ _ _ hpt]
     unfold tmpV
     rw [Mp.get_set]
     by_cases ht : p = t
     ·rw [if_pos ht, if_pos ht]; exact SR.of hx
     ·rw [if_neg ht, if_neg ht]; exact he t)
    exact ⟨by simp [h1], by rw [show putMany ((p :: ps).zip (v :: vs)) tmps = putMany (ps.zip vs) (tmps.setIfInBounds p v) from rfl, h2]; simp, h3⟩
theorem foldl_zip (ps : Array Tmp) (vs : Array Value) (tmps : Array Value) : (ps.zip vs).foldl (fun tmps (t, a) => tmps.setIfInBounds t a) tmps = putMany (ps.toList.zip vs.toList) tmps := by
 rw [<- Array.foldl_toList, Array.toList_zip]
 rfl
theorem endV_ok (s : St C lam ms F b a w cs) {id : Nat} {L : Loc} {st : LoopState} {pend : Option Code} {c : Frame} {cs1 : List Frame} (hm : C.mu id = some L) (hst : st = (if pend.isNone then .ready else .done)) {C0 : Cfg} {h0 : Heap} {w0 : World} {m : Machine}
  (hs : ∀ w', (Instr.endRound L.b pend).run P w = .ok (.bool pend.isNone) w' -> Steps P m (lone (c.finish (.bool pend.isNone)) cs1 w')) (hx : Ext C0 h0 (fun _ => False) w0 C F.hp (Own lam ms) w) :
  Answered P C0 h0 w0 m c cs1 (endV id F st pend pend.isNone) := by
 unfold endV
 split
 ·rename_i f e ps assign body st0 pend0 hg
  obtain ⟨L', e1, l, h1, h2, h3, h4, h5, h6, h7, h8⟩ := s.wr.blk id _ hg
  rw [hm] at e1
  cases e1
  have hrun : (Instr.endRound L.b pend).run P w = .ok (.bool pend.isNone) { w with heap := w.heap.setIfInBounds L.b (.loop { l with state := st, pending := pend }) } := by
   simp only [Instr.endRound, Sem.run_bind, run_getLoop h1, Result.andThen_ok, run_setObj h1 (fun _ _ _ h => by cases h), Sem.run_pure, hst]
  obtain ⟨s', e'⟩ := s.putHp (w' := { w with heap := w.heap.setIfInBounds L.b (.loop { l with state := st, pending := pend }) }) (blk' := .loop f e ps assign body st pend) hg hm (by simp) (fun β hb => heap_set_other hb)
   ⟨_, heap_set_same h1, h2, h3, h4, h5, rfl, rfl, h8⟩ rfl rfl rfl
  exact ⟨C, _, .bool pend.isNone, hs _ hrun, .bool _, s'.wr, (hx.trans e').close fun _ o => o⟩
 ·trivial
theorem roundV_ok {X : Ctx} {ev : Code -> Fr -> Out} (hev : CodeOK X.P ev) : RdOK X.P (roundV X ev) := by
  intro id args h C w vs L r hv hmu hne
  unfold roundV at hne ⊢
  split at hne
  · rename_i f e ps assign body pend hg
    split at hne
    · exact absurd rfl hne
    · rename_i e' hset
      obtain ⟨L', e1, l, h1, h2, h3, h4, h5, h6, h7, h8, h9, h10, h11⟩ := r.blk id _ hg
      rw [hmu] at e1
      cases e1
      obtain ⟨k1, k2, k3⟩ := setParams_ok ps args vs.toList e e' l.tmps hset (by simpa using hv) h10 h11
      have hsz : vs.size = l.params.size := by rw [hv.1, <- k1, <- h3]; simp
      have hy : (Instr.yield L.b vs).run X.P w = .ok (.round L.b f (putMany (ps.zip vs.toList) l.tmps) assign body) w := by
        simp only [Instr.yield, Sem.run_bind, run_getLoop h1, Result.andThen_ok, ne_eq, hsz, not_true_eq_false, if_false, Sem.run_pure, foldl_zip, h2, h3, h4, h5]
      refine ⟨f, _, assign, body, hy, fun c cs => ?_⟩
      let F0 : Fr := { f, rnd := true, e := e', lm := .nil, hp := h, df := [], up := none }
      let b : Frame := { (default : Frame) with fn := f, kind := .normal, roundOf := some L.b }
      let a : Act := { tmps := putMany (ps.zip vs.toList) l.tmps, defers := [] }
      have hb0 : Frame.round L.b f (putMany (ps.zip vs.toList) l.tmps) assign body .normal = b.atR a [.code assign, .beginRound, .code body] := by
        simp [Frame.round, Frame.atR, b, a]
      have s0 : St C (fun _ => none) [] F0 b a w (c :: cs) :=
        { wr := r, env := k3, box := fun s β h => (by cases h), inj := fun s s' β h => (by cases h), mark := fun r h => (by simp at h), nodup := (by simp), live := fun β o => (own_none β o).elim, osig := fun β x v o => (own_none β o).elim,
          df := .nil, up := .inl rfl, fn := rfl, rnd := rfl }
      have hcs : ∀ cs', CsR b (c :: cs) cs' -> cs' = c :: cs := fun cs' h => by
        rcases h with h | ⟨h, _⟩
        · exact h
        · cases h
      have close : ∀ {C' : Cfg} {h' : Heap} {O' : Nat -> Prop} {w' : World}, Ext C h (Own (fun _ => none) []) w C' h' O' w' -> Ext C h (fun _ => False) w C' h' O' w' := fun e => e.ahead own_none
      have o1 := hev assign F0 C (fun _ => none) [] b a w (c :: cs) [.beginRound, .code body] s0 (by rw [show a.tmps.size = l.tmps.size from k2]; exact h8)
      rw [hb0]
      show Answered _ _ _ _ _ _ _ (match ev assign F0 with
        | .norm F1 => (match F1.hp.get id with
          | some (.loop f1 e1 params1 assign1 body1 .ready p) => roundEnd X.P id (ev body { F1 with hp := F1.hp.put id (.loop f1 e1 params1 assign1 body1 .busy p) })
          | _ => .fail)
        | _ => .fail)
      split
      · rename_i F1 e1
        rw [e1] at o1
        obtain ⟨C1, lam1, ms1, a1, cs1, w1, q1, q2, q3, q4, q5⟩ := o1
        obtain rfl := hcs cs1 q5
        split
        · rename_i f1 e1 ps1 as1 bo1 p1 hg1
          have hmu1 := q4.le.mu _ _ hmu
          obtain ⟨L', e1', l1, g1, g2, g3, g4, g5, g6, g7, g8⟩ := q3.wr.blk id _ hg1
          rw [hmu1] at e1'
          cases e1'
          have hbegin : (Instr.beginRound L.b).run X.P w1 = .ok () { w1 with heap := w1.heap.setIfInBounds L.b (.loop { l1 with state := .busy }) } := by
            simp only [Instr.beginRound, Sem.run_bind, run_getLoop g1, Result.andThen_ok, run_setObj g1 (fun _ _ _ h => by cases h), Sem.run_pure, g6]
          obtain ⟨s1, x1⟩ := q3.putHp (w' := { w1 with heap := w1.heap.setIfInBounds L.b (.loop { l1 with state := .busy }) }) (blk' := .loop f1 e1 ps1 as1 bo1 .busy p1) hg1 hmu1 (by simp) (fun β hb => heap_set_other hb)
            ⟨_, heap_set_same g1, g2, g3, g4, g5, rfl, g7, g8⟩ rfl rfl rfl
          have hsteps : Steps X.P (lone (b.atR a [.code assign, .beginRound, .code body]) (c :: cs) w) (lone (b.atR a1 [.code body]) (c :: cs) _) := q1.trans (.one (stepR_beginRound rfl hbegin))
          have o2 := hev body _ C1 lam1 ms1 b a1 _ (c :: cs) [] s1 (by rw [q2, show a.tmps.size = l.tmps.size from k2]; exact h9)
          have x2 := close (q4.trans x1)
          generalize ev body _ = o at o2
          cases o with
          | norm F2 =>
            obtain ⟨C2, lam2, ms2, a2, cs2, w2, p1, p2, p3, p4, p5⟩ := o2
            obtain rfl := hcs cs2 p5
            have hmu2 := p4.le.mu _ _ hmu1
            exact endV_ok (pend := none) (st := .ready) p3 hmu2 rfl (fun w' hw' => hsteps.trans (p1.trans (.one (stepR_round_end rfl rfl hw')))) (x2.trans p4)
          | exit i F2 =>
            obtain ⟨C2, lam2, ms2, a2, cs2, w2, k1', p1, hk, p2, p3, p4, p5⟩ := o2
            obtain rfl := hcs cs2 p5
            have hmu2 := p4.le.mu _ _ hmu1
            exact endV_ok (pend := some (.exit i)) (st := .done) p3 hmu2 rfl (fun w' hw' => hsteps.trans (p1.trans (.one (stepR_round_exit rfl rfl hk hw')))) (x2.trans p4)
          | ret F2 =>
            obtain ⟨C2, lam2, ms2, a2, cs2, w2, k1', p1, p2, p3, p4, p5⟩ := o2
            obtain rfl := hcs cs2 p5
            have hmu2 := p4.le.mu _ _ hmu1
            exact endV_ok (pend := some .ret) (st := .done) p3 hmu2 rfl (fun w' hw' => hsteps.trans (p1.trans (.one (stepR_round_ret rfl rfl hw')))) (x2.trans p4)
          | pan v F2 =>
            obtain ⟨C2, lam2, ms2, a2, cs2, w2, todo, u, p1, hr, p2, p3, p4, p5⟩ := o2
            obtain rfl := hcs cs2 p5
            show Answered _ _ _ _ _ _ _ (if F2.df.isEmpty && (X.P.funcs[F2.f]?).isSome then .pan v F2.hp none else .fail)
            split
            · rename_i hdf
              simp only [Bool.and_eq_true] at hdf
              obtain ⟨w3, t1, t2, t3⟩ := unwind_marks (P := X.P) a2.defers ms2 a2 w2 todo (Pan u) rfl (by intro e; cases e) (by simpa using hdf.1) p3
              obtain ⟨fn, hfn⟩ := Option.isSome_iff_exists.1 hdf.2
              have hlv : Frame.leaving X.P { b.atR { a2 with defers := [] } todo with mode := Pan u } w3 (.panicked [{ v := u, recovered := false }]) := ⟨rfl, rfl, fn, by rw [<- p3.fn] at hfn; exact hfn⟩
              exact ⟨C2, w3, u, hsteps.trans (p1.trans (t1.trans (.one (step_leave_panicked hlv)))), hr, t2.wr, (x2.trans (p4.trans t3)).close fun _ o => o⟩
            · trivial
          | fail => trivial
        · trivial
      · trivial
  · exact absurd rfl hne
end
end Go.AM
namespace Go.AM
open Go
variable [Keep]
section
variable {P : Program} {w w' : World} {C : Cfg} {lam : Nat -> Option Nat} {ms : List Nat} {F : Fr} {b : Frame} {a : Act} {cs : List Frame} {k : List Item}
theorem St.pushMark (s : St C lam ms F b a w cs) :
    St C lam (w.heap.size :: ms) F b { a with defers := { target := .collected w.heap.size, args := #[] } :: a.defers } { w with heap := w.heap.push (.deferred (some [])) } cs /\
    Ext C F.hp (Own lam ms) w C F.hp (Own lam (w.heap.size :: ms)) { w with heap := w.heap.push (.deferred (some [])) } := by
  obtain ⟨s', e'⟩ := s.push (w' := { w with heap := w.heap.push (.deferred (some [])) }) (o := .deferred (some [])) (C' := C) rfl rfl rfl rfl (.refl C) (fun _ _ h => h) (fun _ _ h => .inl h)
  have hown : ∀ β, Own lam (w.heap.size :: ms) β -> Own lam ms β \/ β = w.heap.size := by
    rintro β (h | h)
    · exact .inl (.inl h)
    · rcases List.mem_cons.1 h with rfl | h
      · exact .inr rfl
      · exact .inl (.inr h)
  constructor
  · exact { wr := s'.wr, env := s'.env, box := s'.box, inj := s'.inj, mark := fun r hr => by
              rcases List.mem_cons.1 hr with rfl | hr
              · simp
              · exact s'.mark r hr
            nodup := List.nodup_cons.2 ⟨fun h => by have := s.own_lt (.inr h); omega, s.nodup⟩,
            live := fun β ho l => by
              rcases hown β ho with ho | rfl
              · exact s'.live β ho l
              · have := s.wr.live_lt l; omega
            osig := fun β x v ho h e => by
              rcases hown β ho with ho | rfl
              · exact s'.osig β x v ho h e
              · have := s.wr.sig_lt h; omega
            df := .mark _ s'.df, up := s'.up, fn := s'.fn, rnd := s'.rnd }
  · exact { e' with own := fun β hb o => (hown β o).elim .inr (fun e => absurd hb (by omega)) }
theorem noBox_SR {lm : Mp (Nat × List AV)} {v : AV} {u : Value} (h : SR C lam lm v u) : SR C (fun _ => none) .nil (noBox v) u := by
 cases v <;> first | exact h | trivial
theorem env_noBox (s : St C lam ms F b a w cs) (t : Tmp) : SR C (fun _ => none) .nil (tmpV (F.e.map noBox) t) (a.tmps.getD t undef) := by
 have h := s.env t
 unfold tmpV
 rw [Mp.get_map]
 have e : F.tmp t = match F.e.get t with | some v => v | none => undefA := rfl
 rw [e] at h
 cases hg : F.e.get t with
 | none => rw [hg] at h; exact h
 | some v => rw [hg] at h; exact noBox_SR h
theorem rangeFunc_ok {X : Ctx} {cl : FuncId -> List AV -> Heap -> COut} (hP : NoNum X.P) (hc : ClOK X.P cl) (s : St C lam ms F b a w cs) {g : Operand} {ps : Array Tmp} {assign body : Code} {fid : FuncId} {first capt : List AV} (hr : F.rnd = false)
  (hg : F.opv g = some (.func (.func fid) first capt)) (hok : codeOk a.tmps.size (.rangeFunc g ps assign body) = true) :
  Outs X.P (lone (b.atR a (.code (.rangeFunc g ps assign body) :: k)) cs w) C lam ms F b a w cs k
   (match cl fid ((first ++ [.yield F.hp.next]) ++ capt) (F.hp.new (.loop F.f (F.e.map noBox) ps.toList assign body .ready none)) with
   | .ret _ h _ => (match h.get F.hp.next with
    | some (.loop f e ps a b st pend) => if st = .busy then .fail else
     (let F' := { F with hp := h.put F.hp.next (.loop f e ps a b .exhausted pend) }
     match pend with
     | none => .norm F'
     | some .ret => .ret F'
     | some (.exit i) => .exit i F'
     | _ => .fail)
    | _ => .fail)
   | _ => .fail) := by
 simp only [codeOk, Bool.and_eq_true] at hok
 obtain ⟨hps, has, hbo⟩ := hok
 have hro : b.roundOf = none := by
  have := s.rnd
  cases h : b.roundOf with
  | none => rfl
  | some l => rw [h, hr] at this; cases this
 obtain ⟨vs, ws, eg, rv, rw'⟩ := (s.opv hg).func_inv
 obtain ⟨s1, x1⟩ := s.pushMark
 let w1 : World := { w with heap := w.heap.push (.deferred (some [])) }
 let rec1 : Loop := { state := .ready, pending := none, fn := b.fn, tmps := a.tmps, params := ps, assign, body, defers := w.heap.size }
 let w2 : World := { w1 with heap := w1.heap.push (.loop rec1) }
 let L : Loc := ⟨w1.heap.size, 0, 0, 0⟩
 let a1 : Act := { a with defers := { target := .collected w.heap.size, args := #[] } :: a.defers }
 have hle : C.le (muPush C F.hp.next L) := muPush_le s1.wr L
 obtain ⟨s2, x2⟩ := s1.fresh (w' := w2) (o := .loop rec1) (blk := .loop F.f (F.e.map noBox) ps.toList assign body .ready none) (L := L) rfl rfl rfl rfl rfl
  ⟨rec1, by simp [w2, L], s.fn, rfl, rfl, rfl, rfl, rfl, has, hbo, fun p hp => by have := List.all_eq_true.1 hps p hp; simpa using this, fun t => (env_noBox s t).mono hle⟩
 have hent : (Instr.enterLoop b.fn a.tmps ps assign body b.roundOf).run X.P w = .ok (w1.heap.size, [{ target := .collected w.heap.size, args := #[] }]) w2 := by
  rw [hro]
  simp [Instr.enterLoop, w2, w1, rec1]
 have hres : (resolve a.eval (rangeCall g w1.heap.size) 0).run X.P w2 = .ok { target := .fn (.func fid) ws, args := vs ++ #[.func (.yield w1.heap.size) #[] #[]] } w2 := by
  have e : (#[Operand.const (.func (.yield w1.heap.size) #[] #[])] : Array Operand).map a.eval = #[.func (.yield w1.heap.size) #[] #[]] := by simp [Act.eval]
  simp only [resolve, rangeCall, e, eg, Deferred.ofValue, Sem.run_pure]
 have hvs : VRs (muPush C F.hp.next L) ((first ++ [.yield F.hp.next]) ++ capt) ((vs ++ #[.func (.yield w1.heap.size) #[] #[]]) ++ ws) := by
  refine VRs.append (VRs.append (rv.mono hle) ⟨rfl, fun i hi => ?_⟩) (rw'.mono hle)
  have : i = 0 := by simpa using hi
  subst this
  exact VR.yield (L := L) (by simp [muPush])
 cases hcl : cl fid ((first ++ [.yield F.hp.next]) ++ capt) (F.hp.new (.loop F.f (F.e.map noBox) ps.toList assign body .ready none)) with
 | fail => trivial
 | pan v h' up => trivial
 | ret v h' up =>
  obtain ⟨⟨fn, hfn, hb⟩, hans⟩ := hc fid _ _ _ w2 _ s2.wr hvs (by rw [hcl]; intro e; cases e)
  have hinv : (invoke (.fn (.func fid) ws) (vs ++ #[.func (.yield w1.heap.size) #[] #[]])).run X.P w2 = .ok (.enter fid ((vs ++ #[.func (.yield w1.heap.size) #[] #[]]) ++ ws)) w2 := by
   simp only [invoke, run_callFunc hP hfn hb]
  have hstep := stepR_rangeFunc (P := X.P) (b := b) (a := a) (k := k) (cs := cs) hent hres hinv
  have h1 := hans (b.atR a1 (.inRangeFunc w1.heap.size :: k)) cs
  rw [hcl] at h1
  obtain ⟨C3, w3, u, q1, q2, q3, q4⟩ := h1
  rw [finish_atR_inRangeFunc] at q1
  have s3 := s2.later q3 q4
  have x3 := (x1.trans x2).trans (q4.wide (Own lam (w.heap.size :: ms)))
  show Outs _ _ _ _ _ _ _ _ _ _ _ (match h'.get F.hp.next with
    | some (.loop f e ps a b st pend) => if st = .busy then .fail else
     (let F' := { F with hp := h'.put F.hp.next (.loop f e ps a b .exhausted pend) }
     match pend with
     | none => .norm F'
     | some .ret => .ret F'
     | some (.exit i) => .exit i F'
     | _ => .fail)
    | _ => .fail)
  split
  ·rename_i f e ps' as' bo' st pend hget
   split
   ·trivial
   ·rename_i hbusy
    have hmu : C3.mu F.hp.next = some L := q4.le.mu _ _ (by simp [muPush])
    obtain ⟨L', e1, l1, g1, g2, g3, g4, g5, g6, g7, g8⟩ := s3.wr.blk F.hp.next _ hget
    rw [hmu] at e1
    cases e1
    have hend : (Instr.endLoop w1.heap.size).run X.P w3 = .ok pend { w3 with heap := w3.heap.setIfInBounds w1.heap.size (.loop { l1 with state := .exhausted }) } := by
     have hst : (l1.state == LoopState.busy) = false := by rw [g6]; cases st <;> first | rfl | exact absurd rfl hbusy
     have g1 : w3.heap[w1.heap.size]? = some (.loop l1) := g1
     simp only [Instr.endLoop, Sem.run_bind, run_getLoop g1, Result.andThen_ok, hst, Bool.false_eq_true, if_false, run_setObj g1 (fun _ _ _ h => by cases h), Sem.run_pure, g7]
    obtain ⟨s4, x4⟩ := s3.putHp (w' := { w3 with heap := w3.heap.setIfInBounds w1.heap.size (.loop { l1 with state := .exhausted }) }) (blk' := .loop f e ps' as' bo' .exhausted pend) hget hmu (by simp) (fun β hb => heap_set_other hb)
     ⟨_, heap_set_same g1, g2, g3, g4, g5, rfl, g7, g8⟩ rfl rfl rfl
    have hsteps : Steps X.P (lone (b.atR a (.code (.rangeFunc g ps assign body) :: k)) cs w) (lone (b.atR a1 ((pend.map Item.code).toList ++ k)) cs _) := .head hstep (q1.trans (.one (stepR_endRangeFunc hend)))
    have hfin := (⟨rfl, s4, x3.trans x4, .refl b cs⟩ : Fin C lam ms F b a w cs _ C3 lam (w.heap.size :: ms) a1 cs _)
    cases pend with
    | none => exact ⟨_, _, _, _, _, _, hsteps, hfin⟩
    | some c =>
     cases c <;> try trivial
     case exit i => exact ⟨_, _, _, _, _, _, k, hsteps, rfl, hfin⟩
     case ret => exact ⟨_, _, _, _, _, _, k, hsteps, hfin⟩
  ·trivial
def DrawOK (X : Ctx) : Prop :=
 ∀ (cl : FuncId -> List AV -> Heap -> COut) (rd : Nat -> List AV -> Heap -> COut), ClOK X.P cl -> RdOK X.P rd ->
  ∀ (id : Nat) (ops : Array Oper) (F : Fr) (C : Cfg) (lam : Nat -> Option Nat) (ms : List Nat) (b : Frame) (a : Act) (w : World) (cs : List Frame) (k : List Item), St C lam ms F b a w cs -> dstsLt a.tmps.size ops.toList = true ->
   Outs X.P (lone (b.atR a (.code (.region id ops true) :: k)) cs w) C lam ms F b a w cs k (runDraw X cl rd ops F)
def LoopOK (P : Program) (ev : Code -> Fr -> Out) : Prop :=
 ∀ (body : Code) (F : Fr) (C : Cfg) (lam : Nat -> Option Nat) (ms : List Nat) (b : Frame) (a : Act) (w : World) (cs : List Frame) (k : List Item), St C lam ms F b a w cs -> codeOk a.tmps.size body = true ->
  Outs P (lone (b.atR a (.code body :: .inLoop body :: k)) cs w) C lam ms F b a w cs k (ev (.loop body) F)
theorem loop_step {X : Ctx} {ev : Code -> Fr -> Out} (hev : CodeOK X.P ev) (hl : LoopOK X.P ev) : LoopOK X.P (evStep X ev) := by
 intro body F C lam ms b a w cs k s hok
 have h1 := hev body F C lam ms b a w cs (.inLoop body :: k) s hok
 simp only [evStep]
 split
 ·rename_i F' e
  rw [e] at h1
  obtain ⟨C', lam', ms', a', cs', w', q1, q2⟩ := h1
  exact Outs.head (q1.trans (.one stepR_inLoop)) q2 (hl body F' C' lam' ms' b a' w' cs' k q2.2.1 (by rw [q2.1]; exact hok))
 ·rename_i o hne
  exact h1.behind (fun _ => rfl) hne
theorem code_step {X : Ctx} (hP : NoNum X.P) (hI : IntrOK X) (hD : DrawOK X) {ev : Code -> Fr -> Out} (hev : CodeOK X.P ev) (hl : LoopOK X.P ev) : CodeOK X.P (evStep X ev) := by
 intro c F C lam ms b a w cs k s hok
 have hcl := (callF_ok hev hP hI).cl
 have hrd := roundV_ok hev
 have one : ∀ {m : Machine}, step X.P (lone (b.atR a (.code c :: k)) cs w) = .next m -> ∀ {o : Out}, Outs X.P m C lam ms F b a w cs k o -> Outs X.P (lone (b.atR a (.code c :: k)) cs w) C lam ms F b a w cs k o := fun h _ ho => Outs.head (.one h) (.refl s) ho
 cases c with
 | skip => exact ⟨C, lam, ms, a, cs, w, .one stepR_skip, .refl s⟩
 | label l => exact ⟨C, lam, ms, a, cs, w, .one stepR_label, .refl s⟩
 | exit id => exact ⟨C, lam, ms, a, cs, w, k, .refl _ _, rfl, .refl s⟩
 | ret => exact ⟨C, lam, ms, a, cs, w, k, .refl _ _, .refl s⟩
 | seq x y =>
  simp only [codeOk, Bool.and_eq_true] at hok
  have h1 := hev x F C lam ms b a w cs (.code y :: k) s hok.1
  simp only [evStep]
  refine one stepR_seq ?_
  split
  ·rename_i F' e
   rw [e] at h1
   obtain ⟨C', lam', ms', a', cs', w', q1, q2⟩ := h1
   exact Outs.head q1 q2 (hev y F' C' lam' ms' b a' w' cs' k q2.2.1 (by rw [q2.1]; exact hok.2))
  ·rename_i o hne
   exact h1.behind (fun _ => rfl) hne
 | cond c x y =>
  simp only [codeOk, Bool.and_eq_true] at hok
  simp only [evStep]
  split
  ·rename_i e
   have hv : a.eval c = .bool true := ((s.opd e).out rfl).bool_inv
   exact one (stepR_cond hv) (hev x F C lam ms b a w cs k s hok.1)
  ·rename_i e
   have hv : a.eval c = .bool false := ((s.opd e).out rfl).bool_inv
   exact one (stepR_cond hv) (hev y F C lam ms b a w cs k s hok.2)
  ·trivial
 | block id x =>
  simp only [codeOk] at hok
  have h1 := hev x F C lam ms b a w cs (.inBlock id :: k) s hok
  simp only [evStep]
  refine one stepR_block ?_
  generalize ev x F = o at h1
  cases o with
  | norm F' =>
   obtain ⟨C', lam', ms', a', cs', w', q1, q2⟩ := h1
   exact ⟨C', lam', ms', a', cs', w', q1.trans (.one stepR_inBlock), q2⟩
  | exit i F' =>
   obtain ⟨C', lam', ms', a', cs', w', k1, q1, q3, q2⟩ := h1
   simp only
   split
   ·rename_i e
    subst e
    have : exitTo i k1 = some k := by rw [q3]; simp [exitTo]
    exact ⟨C', lam', ms', a', cs', w', q1.trans (.one (stepR_exit this)), q2⟩
   ·rename_i e
    refine ⟨C', lam', ms', a', cs', w', k1, q1, ?_, q2⟩
    rw [q3]
    simp only [exitTo]
    rw [if_neg (by simpa using fun e' => e e'.symm)]
  | ret F' => exact h1
  | pan v F' => exact h1
  | fail => trivial
 | loop x =>
  simp only [codeOk] at hok
  exact one stepR_loop (loop_step hev hl x F C lam ms b a w cs k s hok)
 | scope x =>
  simp only [codeOk] at hok
  have h1 := hev x F C lam ms b a w cs (.inScope x :: k) s hok
  simp only [evStep]
  refine one stepR_scope ?_
  generalize ev x F = o at h1
  cases o with
  | norm F' =>
   obtain ⟨C', lam', ms', a', cs', w', q1, q2⟩ := h1
   exact ⟨C', lam', ms', a', cs', w', q1.trans (.one stepR_inScope), q2⟩
  | _ => exact h1.behind (fun _ => rfl) (fun F' e => by cases e)
 | region id ops draw =>
  simp only [codeOk] at hok
  simp only [evStep]
  cases draw with
  | true => exact hD _ _ hcl hrd id ops F C lam ms b a w cs k s hok
  | false =>
   refine one stepR_region ?_
   have := runOps_ok (X := X) (k := k) hP hcl hrd (ops := ops) ops.toList 0 C lam ms F a w cs s (fun j o h => by simpa using h) hok
   rw [show List.range' 0 ops.toList.length = List.range ops.size from by rw [List.range_eq_range']; simp] at this
   exact this
 | rangeFunc g ps assign body =>
  simp only [evStep]
  split
  ·trivial
  ·rename_i hr
   split
   ·rename_i fid first capt hg
    exact rangeFunc_ok hP hcl s (by simpa using hr) hg hok
   ·trivial
 | _ => trivial
theorem ev_ok {X : Ctx} (hP : NoNum X.P) (hI : IntrOK X) (hD : DrawOK X) : ∀ n, CodeOK X.P (ev X n) /\ LoopOK X.P (ev X n) := by
 intro n
 induction n with
 | zero => exact ⟨fun _ _ _ _ _ _ _ _ _ _ _ _ => trivial, fun _ _ _ _ _ _ _ _ _ _ _ _ => trivial⟩
 | succ n ih => exact ⟨code_step hP hI hD ih.1 ih.2, loop_step ih.1 ih.2⟩
end
end Go.AM
namespace Go.AM
open Go
variable [Keep]
section
variable {F G : Fr} {P : Program}
theorem opv_congr {x : Operand} (h : G.opd x = F.opd x) : G.opv x = F.opv x := by unfold Fr.opv; rw [h]
theorem opvs_congr : ∀ {l : List Operand}, (∀ x ∈ l, G.opd x = F.opd x) -> G.opvs l = F.opvs l := by
 intro l
 induction l with
 | nil => intro _; rfl
 | cons x l ih =>
  intro h
  simp only [Fr.opvs]
  rw [opv_congr (h x (by simp)), ih (fun y hy => h y (by simp [hy]))]
theorem parts_congr : ∀ {l : List (Nat × Operand)}, (∀ p ∈ l, G.opd p.2 = F.opd p.2) -> G.parts l = F.parts l := by
 intro l
 induction l with
 | nil => intro _; rfl
 | cons p l ih =>
  intro h
  obtain ⟨i, x⟩ := p
  simp only [Fr.parts]
  rw [opv_congr (h (i, x) (by simp)), ih (fun y hy => h y (by simp [hy]))]
theorem mem_congr (h1 : G.lm = F.lm) (h2 : G.hp = F.hp) (p : AV) : G.mem p = F.mem p := by
 unfold Fr.mem
 rw [h1, h2]
theorem rd_congr {X : Ctx} {d : Option Tmp} {op : Op} (ho : ∀ x ∈ op.operands.toList, G.opd x = F.opd x) (h1 : G.lm = F.lm) (h2 : G.hp = F.hp) : rdV X G d op = rdV X F d op := by
 cases op <;> simp only [rdV]
 case move x => exact ho x (by simp [Op.operands])
 case assign x => exact ho x (by simp [Op.operands])
 case pick c x y => simp only [Fr.pickV]; rw [opv_congr (ho c (by simp [Op.operands])), opv_congr (ho x (by simp [Op.operands])), opv_congr (ho y (by simp [Op.operands]))]
 case alloc t => simp only [Fr.allocV]; rw [h1]
 case build t ps => simp only [Fr.buildV]; rw [parts_congr (fun p hp => ho p.2 (by simp only [Op.operands]; exact List.mem_map_of_mem hp))]
 case buildSlice t n ps => simp only [Fr.buildSliceV]; rw [parts_congr (fun p hp => ho p.2 (by simp only [Op.operands]; exact List.mem_map_of_mem hp))]
 case load t x => simp only [Fr.loadV]; rw [ho x (by simp [Op.operands])]; split <;> first | rfl | rw [mem_congr h1 h2]
 case nilCheck x => simp only [Fr.nilCheckV]; rw [ho x (by simp [Op.operands])]
 case binOp bo t x y p => simp only [Fr.binV2]; rw [opv_congr (ho x (by simp [Op.operands])), opv_congr (ho y (by simp [Op.operands]))]
 case unOp uo t x => simp only [Fr.unV1]; rw [opv_congr (ho x (by simp [Op.operands]))]
 case convert t u x => simp only [Fr.convV1]; rw [opv_congr (ho x (by simp [Op.operands]))]
 case makeInterface t x => simp only [Fr.ifaceV]; rw [opv_congr (ho x (by simp [Op.operands]))]
 case makeFunc fn p q => simp only [Fr.funcV]; rw [opvs_congr (fun x hx => ho x (by simp only [Op.operands, Array.toList_append]; exact List.mem_append_left _ hx)), opvs_congr (fun x hx => ho x (by simp only [Op.operands, Array.toList_append]; exact List.mem_append_right _ hx))]
 case slice t x lo hi mx =>
  simp only [Fr.sliceV1]
  rw [opv_congr (ho x (by simp [Op.operands])), h2]
  have e1 : lo.map G.opv = lo.map F.opv := by cases lo with | none => rfl | some y => simp [opv_congr (ho y (by simp [Op.operands]))]
  have e2 : hi.map G.opv = hi.map F.opv := by cases hi with | none => rfl | some y => simp [opv_congr (ho y (by simp [Op.operands]))]
  have e3 : mx.map G.opv = mx.map F.opv := by cases mx with | none => rfl | some y => simp [opv_congr (ho y (by simp [Op.operands]))]
  rw [e1, e2, e3]
 case fieldAddr t x f => simp only [Fr.fieldAddrV]; rw [ho x (by simp [Op.operands])]
 case field t x f => simp only [Fr.fieldV]; rw [opv_congr (ho x (by simp [Op.operands]))]
 case indexAddr t x i => simp only [Fr.indexAddrV1]; rw [ho x (by simp [Op.operands]), opv_congr (ho i (by simp [Op.operands])), h2]
 case index t x i => simp only [Fr.indexV1]; rw [opv_congr (ho x (by simp [Op.operands])), opv_congr (ho i (by simp [Op.operands]))]
 case lookup t x i ok => simp only [Fr.lookupV1]; rw [opv_congr (ho x (by simp [Op.operands])), opv_congr (ho i (by simp [Op.operands])), h2]
 case typeAssert x t u ok => simp only [Fr.assertV1]; rw [opv_congr (ho x (by simp [Op.operands]))]
 case extract x i => simp only [Fr.extractV]; rw [opv_congr (ho x (by simp [Op.operands]))]
 case call c =>
  simp only [Fr.callRd]
  split
  ·simp only [Fr.builtinV1]
   rw [opvs_congr (fun x hx => ho x (by simp only [Op.operands, Call.operands, Array.toList_append]; exact List.mem_append_right _ hx)), h2]
  ·rfl
theorem rd_blind {X : Ctx} {d : Option Tmp} {o : Oper} (hr : mayRead o = false) (ha : isAlloc o = false) (ho : ∀ x ∈ o.op.operands.toList, G.opd x = F.opd x) : rdV X G d o.op = rdV X F d o.op := by
 unfold mayRead at hr
 unfold isAlloc at ha
 revert hr ha ho
 generalize o.op = op
 intro hr ha ho
 cases op <;> simp only [rdV] <;> simp at hr ha
 case move x => exact ho x (by simp [Op.operands])
 case assign x => exact ho x (by simp [Op.operands])
 case pick c x y => simp only [Fr.pickV]; rw [opv_congr (ho c (by simp [Op.operands])), opv_congr (ho x (by simp [Op.operands])), opv_congr (ho y (by simp [Op.operands]))]
 case build t ps => simp only [Fr.buildV]; rw [parts_congr (fun p hp => ho p.2 (by simp only [Op.operands]; exact List.mem_map_of_mem hp))]
 case buildSlice t n ps => simp only [Fr.buildSliceV]; rw [parts_congr (fun p hp => ho p.2 (by simp only [Op.operands]; exact List.mem_map_of_mem hp))]
 case nilCheck x => simp only [Fr.nilCheckV]; rw [ho x (by simp [Op.operands])]
 case binOp bo t x y p => simp only [Fr.binV2]; rw [opv_congr (ho x (by simp [Op.operands])), opv_congr (ho y (by simp [Op.operands]))]
 case unOp uo t x => simp only [Fr.unV1]; rw [opv_congr (ho x (by simp [Op.operands]))]
 case convert t u x => simp only [Fr.convV1]; rw [opv_congr (ho x (by simp [Op.operands]))]
 case makeInterface t x => simp only [Fr.ifaceV]; rw [opv_congr (ho x (by simp [Op.operands]))]
 case makeFunc fn p q => simp only [Fr.funcV]; rw [opvs_congr (fun x hx => ho x (by simp only [Op.operands, Array.toList_append]; exact List.mem_append_left _ hx)), opvs_congr (fun x hx => ho x (by simp only [Op.operands, Array.toList_append]; exact List.mem_append_right _ hx))]
 case fieldAddr t x f => simp only [Fr.fieldAddrV]; rw [ho x (by simp [Op.operands])]
 case field t x f => simp only [Fr.fieldV]; rw [opv_congr (ho x (by simp [Op.operands]))]
 case index t x i => simp only [Fr.indexV1]; rw [opv_congr (ho x (by simp [Op.operands])), opv_congr (ho i (by simp [Op.operands]))]
 case typeAssert x t u ok => simp only [Fr.assertV1]; rw [opv_congr (ho x (by simp [Op.operands]))]
 case extract x i => simp only [Fr.extractV]; rw [opv_congr (ho x (by simp [Op.operands]))]
def setE (e : Mp AV) : OOut -> OOut
 | .val v F => .val v { F with e := e }
 | .pan v F => .pan v { F with e := e }
 | .fail => .fail
def setEo (e : Mp AV) : Option Fr -> Option Fr
 | some F => some { F with e := e }
 | none => none
def setEp (e : Mp AV) : Option (AV × Fr) -> Option (AV × Fr)
 | some (v, F) => some (v, { F with e := e })
 | none => none
theorem write_setE {e : Mp AV} {p : AV} {vs : List AV} : ({ F with e := e } : Fr).write p vs = setEo e (F.write p vs) := by
 unfold Fr.write
 split
 ·simp only
  split
  ·split <;> rfl
  ·rfl
 ·simp only
  split
  ·split <;> rfl
  ·rfl
 ·simp only
  split
  ·split
   ·split
    ·split <;> rfl
    ·rfl
   ·rfl
  ·rfl
 ·rfl
theorem append_setE {e : Mp AV} {t : TypeId} {x : AV} {new : List AV} : appendV P { F with e := e } t x new = setEp e (appendV P F t x new) := by
 unfold appendV
 split
 ·rfl
 ·split
  ·rfl
  ·split
   ·split <;> rfl
   ·split
    ·simp only; split <;> rfl
    ·simp only; split <;> rfl
    ·simp only
     split
     ·split <;> rfl
     ·rfl
    ·rfl
theorem ef_congr {X : Ctx} {cl : FuncId -> List AV -> Heap -> COut} {rd : Nat -> List AV -> Heap -> COut} {e : Mp AV} {d : Option Tmp} {op : Op} (hb : boxy op = false) (ho : ∀ x ∈ op.operands.toList, ({ F with e := e } : Fr).opd x = F.opd x) :
  efV X cl rd { F with e := e } d op = setE e (efV X cl rd F d op) := by
 have hv : ∀ x ∈ op.operands.toList, ({ F with e := e } : Fr).opv x = F.opv x := fun x hx => opv_congr (ho x hx)
 cases op <;> simp only [efV] <;> first | (simp [boxy] at hb; done) | skip
 case store t p x =>
  simp only [Fr.storeE]
  rw [ho p (by simp [Op.operands]), hv x (by simp [Op.operands])]
  split
  ·split
   ·split
    ·rw [write_setE]
     cases Fr.write F _ _ <;> rfl
    ·rfl
   ·rfl
  ·rfl
 case buildSlice t n ps =>
  simp only [Fr.rowE, Fr.buildSliceV]
  rw [parts_congr (fun p hp => ho p.2 (by simp only [Op.operands]; exact List.mem_map_of_mem hp))]
  split <;> rfl
 case makeMap t r => simp only [Fr.mapE]; split <;> rfl
 case makeSlice t l c =>
  simp only [Fr.makeSliceE]
  rw [hv l (by simp [Op.operands]), hv c (by simp [Op.operands])]
  split
  ·split
   ·split <;> rfl
   ·rfl
  ·rfl
 case mapUpdate t m k x =>
  simp only [Fr.mapUpdateE]
  rw [hv m (by simp [Op.operands]), hv k (by simp [Op.operands]), hv x (by simp [Op.operands])]
  split
  ·split
   ·split
    ·split <;> rfl
    ·rfl
   ·rfl
  ·rfl
 case range t x =>
  simp only [Fr.rangeE]
  rw [hv x (by simp [Op.operands])]
  split <;> rfl
 case next x st =>
  simp only [Fr.nextE]
  rw [hv x (by simp [Op.operands])]
  split
  ·split
   ·split <;> rfl
   ·rfl
  ·rfl
 case defer c =>
  simp only [Fr.deferE]
  split
  ·rename_i f hf hr
   rw [hv f (by simp [Op.operands, Call.operands, hf]), opvs_congr (fun x hx => ho x (by simp only [Op.operands, Call.operands, Array.toList_append]; exact List.mem_append_right _ hx))]
   split <;> rfl
  ·rfl
 case panic x =>
  simp only [Fr.panicE]
  rw [hv x (by simp [Op.operands])]
  split <;> rfl
 case call c =>
  have hargs : ({ F with e := e } : Fr).opvs c.args.toList = F.opvs c.args.toList := opvs_congr (fun x hx => ho x (by simp only [Op.operands, Call.operands, Array.toList_append]; exact List.mem_append_right _ hx))
  have hout : ∀ r, outOf { F with e := e } r = setE e (outOf F r) := fun r => by cases r <;> rfl
  simp only [Fr.callOp]
  split
  ·rename_i f hf
   simp only [Fr.callE]
   rw [hv f (by simp [Op.operands, Call.operands, hf]), hargs]
   split
   ·exact hout _
   ·rfl
  ·rename_i x name hf
   simp only [Fr.invokeE]
   rw [hv x (by simp [Op.operands, Call.operands, hf]), hargs]
   split
   ·split
    ·exact hout _
    ·rfl
   ·rfl
  ·rename_i bi hf
   simp only [Fr.builtinE]
   split
   ·simp only [Fr.appendE]
    rw [hargs]
    have hok : ∀ t x new, okO (appendV X.P { F with e := e } t x new) = setE e (okO (appendV X.P F t x new)) := fun t x new => by
     rw [append_setE]
     cases appendV X.P F t x new with
     | none => rfl
     | some p => rfl
    split
    ·split
     ·split
      ·exact hok _ _ _
      ·rfl
     ·split
      ·rfl
      ·split
       ·exact hok _ _ _
       ·rfl
     ·rfl
    ·rfl
   ·split
    ·rename_i x hx
     have hx' : x ∈ c.args.toList := by rw [hx]; simp
     simp only [Fr.panicE]
     rw [hv x (by simp only [Op.operands, Call.operands, Array.toList_append]; exact List.mem_append_right _ hx')]
     split <;> rfl
    ·rfl
   ·split
    ·simp only [Fr.recoverE]
     split
     ·rfl
     ·split <;> rfl
    ·rfl
   ·rfl
 all_goals rfl
end
end Go.AM
namespace Go.AM
open Go
variable [Keep]
section
variable {F G : Fr} {ops : Array Oper} {o : Oper}
def Agree (ops : Array Oper) (o : Oper) (F G : Fr) : Prop := ∀ t ∈ looksAt ops o, F.e.get t = G.e.get t
theorem Agree.opd (h : Agree ops o F G) : ∀ x ∈ o.op.operands.toList, F.opd x = G.opd x := by
 intro x hx
 cases x with
 | tmp t =>
  have ht : t ∈ looksAt ops o := by
   unfold looksAt
   exact List.mem_append_left _ (List.mem_filterMap.2 ⟨.tmp t, hx, rfl⟩)
  simp only [Fr.opd, Fr.tmp]
  rw [h t ht]
 | _ => rfl
theorem Agree.yielded (h : Agree ops o F G) {j : Nat} {b : Bool} (hg : o.guard = some (j, b)) : yieldedA ops F j = yieldedA ops G j := by
 unfold yieldedA
 cases hj : ops[j]? with
 | none => rfl
 | some p =>
  simp only
  cases hd : p.dst with
  | none => rfl
  | some t =>
   have ht : t ∈ looksAt ops o := by
    unfold looksAt
    refine List.mem_append_right _ ?_
    rw [hg]
    simp [hj, hd]
   simp only
   rw [h t ht]
theorem Agree.wanted (h : Agree ops o F G) : wantedA ops F o = wantedA ops G o := by
 unfold wantedA
 cases hg : o.guard with
 | none => rfl
 | some p => obtain ⟨j, b⟩ := p; simp only; rw [h.yielded hg]
theorem Agree.guardOk (h : Agree ops o F G) : guardOk ops F o = guardOk ops G o := by
 unfold Go.AM.guardOk
 cases hg : o.guard with
 | none => rfl
 | some p =>
  obtain ⟨j, b⟩ := p
  simp only
  cases hj : ops[j]? with
  | none => rfl
  | some p =>
   simp only
   cases hd : p.dst with
   | none => rfl
   | some t =>
    have ht : t ∈ looksAt ops o := by
     unfold looksAt
     refine List.mem_append_right _ ?_
     rw [hg]
     simp [hj, hd]
    simp only
    rw [h t ht]
theorem stepOp_same {X : Ctx} {cl : FuncId -> List AV -> Heap -> COut} {rd : Nat -> List AV -> Heap -> COut} {e : Mp AV} (hb : boxy o.op = false) (h : Agree ops o { F with e := e } F) :
  stepOp X cl rd ops o { F with e := e } = (match stepOp X cl rd ops o F with
   | .val v F' => .val v { F' with e := (({ F with e := e } : Fr).put o.dst v).e }
   | .pan v F' => .pan v { F' with e := e }
   | .fail => .fail) := by
 unfold stepOp
 rw [h.guardOk, h.wanted]
 split
 ·rfl
 ·split
  ·simp only
   split
   ·rw [ef_congr hb h.opd]
    cases efV X cl rd F o.dst o.op with
    | val v F' => simp only [setE]; congr 1; cases o.dst <;> rfl
    | pan v F' => rfl
    | fail => rfl
   ·rw [rd_congr (G := { F with e := e }) (F := F) h.opd rfl rfl]
    cases rdV X F o.dst o.op with
    | none => rfl
    | some v => simp only; congr 1; cases o.dst <;> rfl
  ·simp only; congr 1; cases o.dst <;> rfl
theorem stepOp_read {X : Ctx} {cl : FuncId -> List AV -> Heap -> COut} {rd : Nat -> List AV -> Heap -> COut} {v : AV} {F' : Fr} (hf : G.f = F.f) (he : isEffAt X F.f o = false) (h : Agree ops o G F) (h1 : stepOp X cl rd ops o F = .val v F')
  (hr : wantedA ops F o = true -> rdV X G o.dst o.op = rdV X F o.dst o.op) : stepOp X cl rd ops o G = .val v (G.put o.dst v) /\ F' = F.put o.dst v := by
 unfold stepOp at h1 ⊢
 rw [h.guardOk, h.wanted, hf]
 split at h1
 ·cases h1
 ·rename_i hg
  rw [if_neg hg]
  split at h1
  ·rename_i hw
   rw [he] at h1 ⊢
   simp only [Bool.false_eq_true, if_false] at h1 ⊢
   rw [if_pos hw, hr hw]
   cases hv : rdV X F o.dst o.op with
   | none => rw [hv] at h1; cases h1
   | some u => rw [hv] at h1; cases h1; exact ⟨rfl, rfl⟩
  ·rename_i hw
   rw [if_neg hw]
   cases h1
   exact ⟨rfl, rfl⟩
end
end Go.AM
namespace Go.AM
open Go
variable [Keep]
def wrB (ops : Array Oper) (t : Tmp) (i : Nat) : Bool := match ops[i]? with | some o => o.dst == some t | none => false
def efB (X : Ctx) (f : FuncId) (ops : Array Oper) (i : Nat) : Bool := match ops[i]? with | some o => isEffD X f o | none => false
def valOf (ts : List (Nat × Trace)) (i : Nat) : AV := match traceOf ts i with | some t => t.val | none => .junk
def aftOf (F0 : Fr) (ts : List (Nat × Trace)) (i : Nat) : Fr := match traceOf ts i with | some t => t.after | none => F0
def envAt (ops : Array Oper) (F0 : Fr) (ts : List (Nat × Trace)) (A : List Nat) (t : Tmp) : Option AV :=
 match (A.filter (wrB ops t)).getLast? with
 | none => F0.e.get t
 | some z => some (valOf ts z)
def memAt (X : Ctx) (ops : Array Oper) (F0 : Fr) (ts : List (Nat × Trace)) (A : List Nat) : Fr :=
 match (A.filter (efB X F0.f ops)).getLast? with
 | none => F0
 | some z => aftOf F0 ts z
structure At (X : Ctx) (ops : Array Oper) (F0 : Fr) (ts : List (Nat × Trace)) (A : List Nat) (F : Fr) : Prop where
 env : ∀ t, F.e.get t = envAt ops F0 ts A t
 mem : F = { memAt X ops F0 ts A with e := F.e }
section
variable {X : Ctx} {cl : FuncId -> List AV -> Heap -> COut} {rd : Nat -> List AV -> Heap -> COut} {ops : Array Oper} {F0 F : Fr} {ts : List (Nat × Trace)}
theorem At.start : At X ops F0 ts [] F0 := ⟨fun _ => rfl, rfl⟩
theorem envAt_snoc {A : List Nat} {i : Nat} {o : Oper} (ho : ops[i]? = some o) (t : Tmp) : envAt ops F0 ts (A ++ [i]) t = if o.dst = some t then some (valOf ts i) else envAt ops F0 ts A t := by
 unfold envAt
 rw [List.filter_append]
 have hw : wrB ops t i = (o.dst == some t) := by simp [wrB, ho]
 by_cases h : o.dst = some t
 ·have : wrB ops t i = true := by rw [hw]; simpa using h
  simp [List.filter_cons, this, h]
 ·have : wrB ops t i = false := by rw [hw]; simpa using h
  simp [List.filter_cons, this, h]
theorem memAt_snoc {A : List Nat} {i : Nat} : memAt X ops F0 ts (A ++ [i]) = if efB X F0.f ops i then aftOf F0 ts i else memAt X ops F0 ts A := by
 unfold memAt
 rw [List.filter_append]
 cases h : efB X F0.f ops i <;> simp [List.filter_cons, h]
theorem put_get (F : Fr) (d : Option Tmp) (v : AV) (t : Tmp) : (F.put d v).e.get t = if d = some t then some v else F.e.get t := by
 cases d with
 | none => simp [Fr.put]
 | some s => simp only [Fr.put, Mp.get_set]; by_cases h : s = t <;> simp [h]
theorem write_keeps {p : AV} {vs : List AV} {F' : Fr} (h : F.write p vs = some F') : F'.e = F.e /\ F'.f = F.f := by
 unfold Fr.write at h
 (repeat' split at h) <;> first | (cases h; done) | (cases h; exact ⟨rfl, rfl⟩)
theorem append_keeps {P : Program} {t : TypeId} {x v : AV} {new : List AV} {F' : Fr} (h : appendV P F t x new = some (v, F')) : F'.e = F.e /\ F'.f = F.f := by
 unfold appendV at h
 (repeat' split at h) <;> first | (cases h; done) | (cases h; exact ⟨rfl, rfl⟩)
theorem out_keeps {r : COut} {v : AV} {F' : Fr} (h : outOf F r = .val v F') : F'.e = F.e /\ F'.f = F.f := by
 cases r <;> simp [outOf] at h
 obtain ⟨_, rfl⟩ := h
 exact ⟨rfl, rfl⟩
theorem ef_keeps {d : Option Tmp} {op : Op} {v : AV} {F' : Fr} (h : efV X cl rd F d op = .val v F') : F'.e = F.e /\ F'.f = F.f := by
 have box : ∀ {w : AV}, okO (newBox X F d w) = .val v F' -> F'.e = F.e /\ F'.f = F.f := fun h => by
  have h := okO_val h
  unfold newBox at h
  (repeat' split at h) <;> first | (cases h; done) | (cases h; exact ⟨rfl, rfl⟩)
 cases op <;> simp only [efV] at h <;> first | (cases h; done) | skip
 case alloc t => unfold Fr.allocE at h; split at h; exact box h; cases h
 case box t x => unfold Fr.boxE at h; split at h; exact box h; cases h
 case store t p x =>
  unfold Fr.storeE at h
  split at h
  ·split at h
   ·split at h
    ·split at h
     ·rename_i hw; cases h; exact write_keeps hw
     ·cases h
    ·cases h
   ·cases h
  ·cases h
 case buildSlice t n ps => unfold Fr.rowE at h; (repeat' split at h) <;> first | (cases h; done) | (cases h; exact ⟨rfl, rfl⟩)
 case makeMap t r => unfold Fr.mapE at h; (repeat' split at h) <;> first | (cases h; done) | (cases h; exact ⟨rfl, rfl⟩)
 case makeSlice t l c => unfold Fr.makeSliceE at h; (repeat' split at h) <;> first | (cases h; done) | (cases h; exact ⟨rfl, rfl⟩)
 case mapUpdate t m k x => unfold Fr.mapUpdateE at h; (repeat' split at h) <;> first | (cases h; done) | (cases h; exact ⟨rfl, rfl⟩)
 case range t x => unfold Fr.rangeE at h; (repeat' split at h) <;> first | (cases h; done) | (cases h; exact ⟨rfl, rfl⟩)
 case next x st => unfold Fr.nextE at h; (repeat' split at h) <;> first | (cases h; done) | (cases h; exact ⟨rfl, rfl⟩)
 case defer c => unfold Fr.deferE at h; (repeat' split at h) <;> first | (cases h; done) | (cases h; exact ⟨rfl, rfl⟩)
 case panic x => unfold Fr.panicE at h; (repeat' split at h) <;> first | (cases h; done) | (cases h; exact ⟨rfl, rfl⟩)
 case call c =>
  unfold Fr.callOp at h
  split at h
  ·unfold Fr.callE at h
   split at h
   ·exact out_keeps h
   ·cases h
  ·unfold Fr.invokeE at h
   split at h
   ·split at h
    ·exact out_keeps h
    ·cases h
   ·cases h
  ·unfold Fr.builtinE at h
   split at h
   ·unfold Fr.appendE at h
    (repeat' split at h) <;> first | (cases h; done) | exact append_keeps (okO_val h)
   ·split at h
    ·unfold Fr.panicE at h; (repeat' split at h) <;> first | (cases h; done) | (cases h; exact ⟨rfl, rfl⟩)
    ·cases h
   ·split at h
    ·unfold Fr.recoverE at h; (repeat' split at h) <;> first | (cases h; done) | (cases h; exact ⟨rfl, rfl⟩)
    ·cases h
   ·cases h
theorem stepOp_shape {o : Oper} {v : AV} {F' : Fr} (h : stepOp X cl rd ops o F = .val v F') :
  (∀ t, F'.e.get t = if o.dst = some t then some v else F.e.get t) /\ (isEffAt X F.f o = false -> F' = { F with e := F'.e }) /\ F'.f = F.f := by
 have put : ∀ u, (F.put o.dst u) = { F with e := (F.put o.dst u).e } := fun u => by cases o.dst <;> rfl
 unfold stepOp at h
 split at h
 ·cases h
 ·split at h
  ·split at h
   ·rename_i he
    split at h
    ·rename_i v1 F1 e1
     cases h
     obtain ⟨k1, k2⟩ := ef_keeps e1
     refine ⟨fun t => by rw [put_get, k1], fun hn => absurd (he.symm.trans hn) (by simp), ?_⟩
     cases o.dst <;> exact k2
    ·rename_i r hne
     rw [h] at hne
     exact absurd rfl (hne v F')
   ·split at h
    ·cases h
     exact ⟨fun t => put_get _ _ _ _, fun _ => put _, by cases o.dst <;> rfl⟩
    ·cases h
  ·cases h
   exact ⟨fun t => put_get _ _ _ _, fun _ => put _, by cases o.dst <;> rfl⟩
theorem stepD_shape {o : Oper} {v : AV} {F' : Fr} (h : stepD X cl rd ops o F = .val v F') :
  (∀ t, F'.e.get t = if o.dst = some t then some v else F.e.get t) /\ (isEffD X F.f o = false -> F' = { F with e := F'.e }) /\ F'.f = F.f := by
 have put : ∀ u, (F.put o.dst u) = { F with e := (F.put o.dst u).e } := fun u => by cases o.dst <;> rfl
 unfold stepD at h
 split at h
 ·split at h
  ·cases h
   exact ⟨fun t => put_get _ _ _ _, fun _ => put _, by cases o.dst <;> rfl⟩
  ·cases h
 ·rename_i ha
  obtain ⟨h1, h2, h3⟩ := stepOp_shape h
  exact ⟨h1, fun hn => h2 (by
   unfold isEffD at hn
   have ha : isAlloc o = false := by simpa using ha
   rw [ha] at hn
   simpa using hn), h3⟩
end
end Go.AM
namespace Go.AM
open Go
variable [Keep]
structure StepAt (X : Ctx) (cl : FuncId -> List AV -> Heap -> COut) (rd : Nat -> List AV -> Heap -> COut) (ops : Array Oper) (F0 : Fr) (ts : List (Nat × Trace)) (A : List Nat) (i : Nat) (o : Oper) (FA FB : Fr) : Prop where
 op : ops[i]? = some o
 tr : traceOf ts i = some ⟨FA, valOf ts i, FB⟩
 st : stepD X cl rd ops o FA = .val (valOf ts i) FB
 at_ : At X ops F0 ts A FA
 fn : FA.f = F0.f
def StepsAt (X : Ctx) (cl : FuncId -> List AV -> Heap -> COut) (rd : Nat -> List AV -> Heap -> COut) (ops : Array Oper) (F0 : Fr) (ts : List (Nat × Trace)) (A0 L : List Nat) : Prop :=
 ∀ A i B, L = A ++ i :: B -> ∃ o FA FB, StepAt X cl rd ops F0 ts (A0 ++ A) i o FA FB
section
variable {X : Ctx} {cl : FuncId -> List AV -> Heap -> COut} {rd : Nat -> List AV -> Heap -> COut} {ops : Array Oper} {F0 : Fr} {ts : List (Nat × Trace)}
theorem At.step {A0 : List Nat} {F F1 : Fr} {i : Nat} {o : Oper} {v : AV} (h : At X ops F0 ts A0 F) (hf : F.f = F0.f) (ho : ops[i]? = some o) (hs : stepD X cl rd ops o F = .val v F1) (ht : traceOf ts i = some ⟨F, v, F1⟩) :
  At X ops F0 ts (A0 ++ [i]) F1 /\ F1.f = F0.f := by
 obtain ⟨k1, k2, k3⟩ := stepD_shape hs
 have hv : valOf ts i = v := by simp [valOf, ht]
 have ha : aftOf F0 ts i = F1 := by simp [aftOf, ht]
 refine ⟨⟨fun t => ?_, ?_⟩, k3.trans hf⟩
 ·rw [k1, envAt_snoc ho, hv, h.env]
 ·rw [memAt_snoc, ha]
  cases he : efB X F0.f ops i with
  | true => rfl
  | false =>
   have : isEffD X F.f o = false := by simp [efB, ho] at he; rw [hf]; exact he
   have e1 := k2 this
   rw [h.mem] at e1
   simp only [Bool.false_eq_true, if_false]
   exact e1
theorem traceOf_cons_ne {i j : Nat} {t : Trace} {ts : List (Nat × Trace)} (h : j ≠ i) : traceOf ((i, t) :: ts) j = traceOf ts j := by simp [traceOf, h]
theorem runD_norm : ∀ (L A0 : List Nat) (F F' : Fr) (ts1 : List (Nat × Trace)), L.Nodup -> (∀ i ∈ L, traceOf ts i = traceOf ts1 i) -> At X ops F0 ts A0 F -> F.f = F0.f -> runD X cl rd ops L F = .norm F' ts1 ->
  At X ops F0 ts (A0 ++ L) F' /\ StepsAt X cl rd ops F0 ts A0 L := by
 intro L
 induction L with
 | nil =>
  intro A0 F F' ts1 _ _ ha _ h
  simp only [runD] at h
  cases h
  exact ⟨by simpa using ha, fun A i B e => by simp at e⟩
 | cons i L ih =>
  intro A0 F F' ts1 hn ht ha hf h
  simp only [runD] at h
  split at h
  ·cases h
  ·rename_i o ho
   split at h
   ·rename_i v F1 hs
    split at h
    ·rename_i F'' ts2 hr
     cases h
     have hnd := List.nodup_cons.1 hn
     have hti : traceOf ts i = some ⟨F, v, F1⟩ := by rw [ht i (by simp)]; simp [traceOf]
     have htr : ∀ j ∈ L, traceOf ts j = traceOf ts2 j := fun j hj => by
      rw [ht j (by simp [hj])]
      exact traceOf_cons_ne fun e => hnd.1 (e ▸ hj)
     obtain ⟨a1, f1⟩ := ha.step hf ho hs hti
     obtain ⟨q1, q2⟩ := ih (A0 ++ [i]) F1 F' ts2 hnd.2 htr a1 f1 hr
     refine ⟨by simpa using q1, fun A j B e => ?_⟩
     cases A with
     | nil =>
      simp at e
      obtain ⟨rfl, rfl⟩ := e
      have hv : valOf ts i = v := by simp [valOf, hti]
      exact ⟨o, F, F1, ho, by rw [hv]; exact hti, by rw [hv]; exact hs, by simpa using ha, hf⟩
     | cons x A =>
      simp at e
      obtain ⟨rfl, rfl⟩ := e
      have := q2 A j B rfl
      simpa using this
    ·cases h
    ·cases h
   ·cases h
   ·cases h
theorem runD_pan : ∀ (L A0 : List Nat) (F F' : Fr) (i : Nat) (v : AV) (ts1 : List (Nat × Trace)), L.Nodup -> (∀ j ∈ L, traceOf ts j = traceOf ts1 j) -> At X ops F0 ts A0 F -> F.f = F0.f -> runD X cl rd ops L F = .pan i v F' ts1 ->
  ∃ A B o FA, L = A ++ i :: B /\ ops[i]? = some o /\ stepD X cl rd ops o FA = .pan v F' /\ At X ops F0 ts (A0 ++ A) FA /\ FA.f = F0.f /\ StepsAt X cl rd ops F0 ts A0 A /\ ∀ j, (traceOf ts1 j).isSome = true -> j ∈ A := by
 intro L
 induction L with
 | nil => intro A0 F F' i v ts1 _ _ _ _ h; simp only [runD] at h; cases h
 | cons k L ih =>
  intro A0 F F' i v ts1 hn ht ha hf h
  simp only [runD] at h
  split at h
  ·cases h
  ·rename_i o ho
   split at h
   ·rename_i u F1 hs
    split at h
    ·cases h
    ·rename_i i' v' F'' ts2 hr
     cases h
     have hnd := List.nodup_cons.1 hn
     have hti : traceOf ts k = some ⟨F, u, F1⟩ := by rw [ht k (by simp)]; simp [traceOf]
     have htr : ∀ j ∈ L, traceOf ts j = traceOf ts2 j := fun j hj => by
      rw [ht j (by simp [hj])]
      exact traceOf_cons_ne fun e => hnd.1 (e ▸ hj)
     obtain ⟨a1, f1⟩ := ha.step hf ho hs hti
     obtain ⟨A, B, o', FA, q1, q2, q3, q4, q5, q6, q7⟩ := ih (A0 ++ [k]) F1 F' i v ts2 hnd.2 htr a1 f1 hr
     refine ⟨k :: A, B, o', FA, by rw [q1]; rfl, q2, q3, by simpa using q4, q5, fun A' j B' e => ?_, fun j hj => ?_⟩
     ·cases A' with
      | nil =>
       simp at e
       obtain ⟨rfl, rfl⟩ := e
       have hv : valOf ts k = u := by simp [valOf, hti]
       exact ⟨o, F, F1, ho, by rw [hv]; exact hti, by rw [hv]; exact hs, by simpa using ha, hf⟩
      | cons x A' =>
       simp at e
       obtain ⟨rfl, e⟩ := e
       have := q6 A' j B' e
       simpa using this
     ·by_cases e : j = k
      ·subst e; simp
      ·rw [traceOf_cons_ne e] at hj
       exact List.mem_cons_of_mem _ (q7 j hj)
    ·cases h
   ·rename_i v' F'' hs
    cases h
    exact ⟨[], L, o, F, rfl, ho, hs, by simpa using ha, hf, fun A j B e => by simp at e, fun j hj => by simp [traceOf] at hj⟩
   ·cases h
end
end Go.AM
namespace Go.AM
open Go
variable [Keep]
def bitsStep (acc : Array Nat) (o : Oper) : Nat := o.after.foldl (fun s e => if Region.binds .any e then s ||| 2 ^ e.on ||| acc.getD e.on 0 else s) 0
theorem fold_bits (acc : Array Nat) (i : Nat) : ∀ (es : List Edge) (s : Nat), (es.foldl (fun s e => if Region.binds .any e then s ||| 2 ^ e.on ||| acc.getD e.on 0 else s) s).testBit i = true ->
  s.testBit i = true \/ ∃ e ∈ es, Region.binds .any e = true /\ (e.on = i \/ (acc.getD e.on 0).testBit i = true) := by
 intro es
 induction es with
 | nil => intro s h; exact .inl h
 | cons e es ih =>
  intro s h
  simp only [List.foldl_cons] at h
  rcases ih _ h with h | ⟨e', he', hb, h⟩
  ·split at h
   ·rename_i hb
    simp only [Nat.testBit_or, Bool.or_eq_true, Nat.testBit_two_pow, decide_eq_true_eq] at h
    rcases h with (h | h) | h
    ·exact .inl h
    ·exact .inr ⟨e, by simp, hb, .inl h⟩
    ·exact .inr ⟨e, by simp, hb, .inr h⟩
   ·exact .inl h
  ·exact .inr ⟨e', by simp [he'], hb, h⟩
theorem fold_push : ∀ (l : List Oper) (acc : Array Nat), let r := l.foldl (fun acc o => acc.push (bitsStep acc o)) acc
  (∀ k, k < acc.size -> r[k]? = acc[k]?) /\ r.size = acc.size + l.length /\
  ∀ k o, l[k]? = some o -> ∃ acc' : Array Nat, acc'.size = acc.size + k /\ (∀ m, m < acc'.size -> r[m]? = acc'[m]?) /\ r[acc.size + k]? = some (bitsStep acc' o) := by
 intro l
 induction l with
 | nil => intro acc r; exact ⟨fun _ _ => rfl, rfl, fun k o h => by simp at h⟩
 | cons x l ih =>
  intro acc r
  obtain ⟨h1, h2, h3⟩ := ih (acc.push (bitsStep acc x))
  refine ⟨fun k hk => ?_, ?_, fun k o h => ?_⟩
  ·have := h1 k (by simp; omega)
   have e : r[k]? = _ := this
   rw [e, Array.getElem?_push, if_neg (by omega)]
  ·have e : r.size = _ := h2
   rw [e]; simp; omega
  ·cases k with
   | zero =>
    simp at h
    subst h
    refine ⟨acc, rfl, fun m hm => ?_, ?_⟩
    ·have := h1 m (by simp; omega)
     have e : r[m]? = _ := this
     rw [e, Array.getElem?_push, if_neg (by omega)]
    ·have := h1 acc.size (by simp)
     have e : r[acc.size]? = _ := this
     rw [Nat.add_zero, e]; simp
   | succ k =>
    obtain ⟨acc', q1, q2, q3⟩ := h3 k o (by simpa using h)
    refine ⟨acc', by rw [q1]; simp; omega, q2, ?_⟩
    have e : (acc.push (bitsStep acc x)).size + k = acc.size + (k + 1) := by simp; omega
    rw [e] at q3
    exact q3
theorem waits_edge {ops : Array Oper} {j i : Nat} (h : waits ops j i = true) : ∃ o, ops[j]? = some o /\ ∃ e ∈ o.after.toList, Region.binds .any e = true /\ (e.on = i \/ (e.on < j /\ waits ops e.on i = true)) := by
 unfold waits at h
 have hb : Region.before ops = ops.toList.foldl (fun acc o => acc.push (bitsStep acc o)) #[] := by
  unfold Region.before
  rw [<- Array.foldl_toList]
  rfl
 obtain ⟨_, h2, h3⟩ := fold_push ops.toList #[]
 rw [<- hb] at h2 h3
 cases ho : ops[j]? with
 | none =>
  exfalso
  have hj : ops.size <= j := by
   rcases Nat.lt_or_ge j ops.size with h' | h'
   ·rw [Array.getElem?_eq_getElem h'] at ho; cases ho
   ·exact h'
  have : (Region.before ops).getD j 0 = 0 := by
   rw [Array.getD_eq_getD_getElem?, Array.getElem?_eq_none (by rw [h2]; simp; omega)]
   rfl
  rw [this] at h
  simp at h
 | some o =>
  obtain ⟨acc', q1, q2, q3⟩ := h3 j o (by simpa using ho)
  simp only [List.size_toArray, List.length_nil, Nat.zero_add] at q1 q3
  have e1 : (Region.before ops).getD j 0 = bitsStep acc' o := by rw [Array.getD_eq_getD_getElem?, q3]; rfl
  rw [e1] at h
  unfold bitsStep at h
  rw [<- Array.foldl_toList] at h
  rcases fold_bits acc' i _ _ h with h | ⟨e, he, hbd, h⟩
  ·simp at h
  ·refine ⟨o, rfl, e, he, hbd, ?_⟩
   rcases h with h | h
   ·exact .inl h
   ·have hlt : e.on < acc'.size := by
     rcases Nat.lt_or_ge e.on acc'.size with h' | h'
     ·exact h'
     ·rw [Array.getD_eq_getD_getElem?, Array.getElem?_eq_none h'] at h
      simp at h
    refine .inr ⟨by omega, ?_⟩
    unfold waits
    rw [Array.getD_eq_getD_getElem?, q2 e.on hlt, <- Array.getD_eq_getD_getElem?]
    exact h
def Closed (ops : Array Oper) (D : Nat -> Bool) : Prop := ∀ j o, D j = true -> ops[j]? = some o -> ∀ e ∈ o.after.toList, Region.binds .any e = true -> D e.on = true
def Ready (ops : Array Oper) (D : Nat -> Bool) (i : Nat) : Prop := D i = false /\ ∃ o, ops[i]? = some o /\ ∀ e ∈ o.after.toList, Region.binds .any e = true -> D e.on = true
theorem Closed.waits {ops : Array Oper} {D : Nat -> Bool} (h : Closed ops D) : ∀ (n j i : Nat), j <= n -> D j = true -> waits ops j i = true -> D i = true := by
 intro n
 induction n with
 | zero =>
  intro j i hj hd hw
  obtain ⟨o, ho, e, he, hb, h1⟩ := waits_edge hw
  rcases h1 with rfl | ⟨h1, _⟩
  ·exact h j o hd ho e he hb
  ·omega
 | succ n ih =>
  intro j i hj hd hw
  obtain ⟨o, ho, e, he, hb, h1⟩ := waits_edge hw
  rcases h1 with rfl | ⟨h1, h2⟩
  ·exact h j o hd ho e he hb
  ·exact ih e.on i (by omega) (h j o hd ho e he hb) h2
theorem Ready.waits {ops : Array Oper} {D : Nat -> Bool} {i x : Nat} (hc : Closed ops D) (h : Ready ops D i) (hw : waits ops i x = true) : D x = true := by
 obtain ⟨o, ho, e, he, hb, h1⟩ := waits_edge hw
 obtain ⟨_, o', ho', hr⟩ := h
 rw [ho] at ho'
 cases ho'
 have := hr e he hb
 rcases h1 with rfl | ⟨_, h2⟩
 ·exact this
 ·exact hc.waits e.on e.on x (Nat.le_refl _) this h2
def addD (D : Nat -> Bool) (i : Nat) : Nat -> Bool := fun j => j == i || D j
theorem Closed.add {ops : Array Oper} {D : Nat -> Bool} {i : Nat} (hc : Closed ops D) (h : Ready ops D i) : Closed ops (addD D i) := by
 intro j o hj ho e he hb
 simp only [addD, Bool.or_eq_true, beq_iff_eq] at hj ⊢
 rcases hj with rfl | hj
 ·obtain ⟨_, o', ho', hr⟩ := h
  rw [ho] at ho'
  cases ho'
  exact .inr (hr e he hb)
 ·exact .inr (hc j o hj ho e he hb)
end Go.AM
namespace Go.AM
open Go
variable [Keep]
section
variable {X : Ctx} {ops : Array Oper}
def allocAt (ops : Array Oper) (i : Nat) : Bool := match ops[i]? with | some o => isAlloc o | none => false
def restAt (ops : Array Oper) (i : Nat) : Bool := match ops[i]? with | some o => !isAlloc o | none => false
theorem canon_eq : canon ops = (List.range ops.size).filter (allocAt ops) ++ (List.range ops.size).filter (restAt ops) := rfl
theorem canon_mem {i : Nat} : i ∈ canon ops ↔ i < ops.size := by
 rw [canon_eq]
 simp only [List.mem_append, List.mem_filter, List.mem_range]
 constructor
 ·rintro (h | h) <;> exact h.1
 ·intro h
  unfold allocAt restAt
  rw [Array.getElem?_eq_getElem h]
  simp only
  cases isAlloc ops[i] <;> simp [h]
theorem canon_nodup : (canon ops).Nodup := by
 rw [canon_eq, List.nodup_append]
 refine ⟨List.nodup_range.filter _, List.nodup_range.filter _, fun x hx y hy e => ?_⟩
 subst e
 have h1 := (List.mem_filter.1 hx).2
 have h2 := (List.mem_filter.1 hy).2
 unfold allocAt at h1
 unfold restAt at h2
 cases ho : ops[x]? with
 | none => rw [ho] at h1; cases h1
 | some o => rw [ho] at h1 h2; simp only at h1 h2; rw [h1] at h2; cases h2
theorem canon_alloc {A B : List Nat} {i : Nat} (h : canon ops = A ++ i :: B) (hi : allocAt ops i = true) : ∀ z ∈ A, allocAt ops z = true := by
 rw [canon_eq] at h
 intro z hz
 generalize e1 : (List.range ops.size).filter (allocAt ops) = p at h
 generalize e2 : (List.range ops.size).filter (restAt ops) = q at h
 rcases List.append_eq_append_iff.1 h with ⟨c, h1, h2⟩ | ⟨c, h1, h2⟩
 ·
  exfalso
  have : i ∈ q := by rw [h2]; simp
  rw [<- e2] at this
  have h3 := (List.mem_filter.1 this).2
  unfold restAt at h3
  unfold allocAt at hi
  cases ho : ops[i]? with
  | none => rw [ho] at hi; cases hi
  | some o => rw [ho] at hi h3; simp only at hi h3; rw [hi] at h3; cases h3
 ·have : z ∈ p := by rw [h1]; simp [hz]
  rw [<- e1] at this
  exact (List.mem_filter.1 this).2
theorem loose_mem (w : Nat -> Nat -> Bool) : ∀ (A : List Nat) (i : Nat) (B : List Nat) (j : Nat), j ∈ B -> w j i = false -> (i, j) ∈ loosePairs w (A ++ i :: B) := by
 intro A
 induction A with
 | nil =>
  intro i B j hj hw
  simp only [List.nil_append, loosePairs]
  refine List.mem_append_left _ (List.mem_map.2 ⟨j, List.mem_filter.2 ⟨hj, by simp [hw]⟩, rfl⟩)
 | cons a A ih =>
  intro i B j hj hw
  simp only [List.cons_append, loosePairs]
  exact List.mem_append_right _ (ih i B j hj hw)
theorem split_two {l : List Nat} {x y : Nat} (hx : x ∈ l) (hy : y ∈ l) (hne : x ≠ y) : (∃ A B, l = A ++ x :: B /\ y ∈ B) \/ (∃ A B, l = A ++ y :: B /\ x ∈ B) := by
 obtain ⟨A, B, e⟩ := List.append_of_mem hx
 rw [e] at hy
 rcases List.mem_append.1 hy with h | h
 ·obtain ⟨C, D, e'⟩ := List.append_of_mem h
  refine .inr ⟨C, D ++ x :: B, by rw [e, e']; simp, by simp⟩
 ·rcases List.mem_cons.1 h with h | h
  ·exact absurd h.symm hne
  ·exact .inl ⟨A, B, e, h⟩
theorem drawOk_pair {f : FuncId} (h : drawOk X f ops = true) {A B : List Nat} {i j : Nat} (e : canon ops = A ++ i :: B) (hj : j ∈ B) (hw : waits ops j i = false) :
  ∃ x y, ops[i]? = some x /\ ops[j]? = some y /\ apartT ops x y = true /\ (isEffD X f x = true -> isEffD X f y = true -> False) := by
 unfold drawOk at h
 simp only [Bool.and_eq_true] at h
 have := List.all_eq_true.1 h.2 (i, j) (by rw [e]; exact loose_mem _ A i B j hj hw)
 unfold pairOk at this
 simp only at this
 split at this
 ·rename_i x y hx hy
  simp only [Bool.and_eq_true, Bool.not_eq_true'] at this
  exact ⟨x, y, hx, hy, this.1, fun h1 h2 => by rw [h1, h2] at this; simp at this⟩
 ·cases this
theorem drawOk_shape {f : FuncId} (h : drawOk X f ops = true) {i : Nat} {o : Oper} (ho : ops[i]? = some o) :
  (∀ e ∈ o.after.toList, Region.binds .any e = true -> e.on < i) /\ (isAlloc o = true -> o.guard = none /\ o.after = #[] /\ ∃ d, o.dst = some d /\ (X.hts f).contains d = false) /\ (isAlloc o = false -> boxy o.op = false) /\ (∀ c, o.op ≠ .defer c) := by
 unfold drawOk at h
 simp only [Bool.and_eq_true] at h
 have hi : i < ops.size := by
  rcases Nat.lt_or_ge i ops.size with h' | h'
  ·exact h'
  ·rw [Array.getElem?_eq_none h'] at ho; cases ho
 have hs := h.1
 unfold shapeOk at hs
 have := List.all_eq_true.1 hs i (List.mem_range.2 hi)
 simp only [ho, Bool.and_eq_true] at this
 obtain ⟨h1, h2⟩ := this
 refine ⟨fun e he hb => ?_, fun ha => ?_, fun ha => ?_, fun c e => ?_⟩
 ·rw [<- Array.all_toList] at h1
  have := List.all_eq_true.1 h1 e he
  simp only [hb, Bool.not_true, Bool.or_false, decide_eq_true_eq] at this
  exact this
 ·unfold isAlloc at ha
  split at ha
  ·rename_i t e
   rw [e] at h2
   simp only [Bool.and_eq_true] at h2
   obtain ⟨⟨g1, g2⟩, g3⟩ := h2
   refine ⟨by simpa using g1, by simpa using g2, ?_⟩
   cases hd : o.dst with
   | none => rw [hd] at g3; cases g3
   | some d => rw [hd] at g3; exact ⟨d, rfl, by simpa using g3⟩
  ·cases ha
 ·unfold isAlloc at ha
  unfold boxy
  split at ha
  ·cases ha
  ·rename_i hne
   split
   ·rename_i t e; exact absurd e (hne t)
   ·rename_i t x e; rw [e] at h2; cases h2
   ·rfl
 ·rw [e] at h2; cases h2
theorem apart_spec {x y : Oper} (h : apartT ops x y = true) : (∀ d, x.dst = some d -> d ∉ looksAt ops y) /\ (∀ d, x.dst = some d -> y.dst ≠ some d) /\ (∀ d, y.dst = some d -> d ∉ looksAt ops x) := by
 unfold apartT at h
 simp only [Bool.and_eq_true] at h
 refine ⟨fun d hd => ?_, fun d hd => ?_, fun d hd => ?_⟩
 ·have := h.1; rw [hd] at this; simp at this; exact this.1
 ·have := h.1; rw [hd] at this; simp at this; exact this.2
 ·have := h.2; rw [hd] at this; simp at this; exact this
theorem alloc_one {f : FuncId} (h : drawOk X f ops = true) {i j : Nat} {x y : Oper} (hx : ops[i]? = some x) (hy : ops[j]? = some y) (ax : isAlloc x = true) (ay : isAlloc y = true) {s : Tmp} (sx : x.dst = some s) (sy : y.dst = some s) : i = j := by
 have hi : i ∈ canon ops := canon_mem.2 (by
  rcases Nat.lt_or_ge i ops.size with h' | h'
  ·exact h'
  ·rw [Array.getElem?_eq_none h'] at hx; cases hx)
 have hj : j ∈ canon ops := canon_mem.2 (by
  rcases Nat.lt_or_ge j ops.size with h' | h'
  ·exact h'
  ·rw [Array.getElem?_eq_none h'] at hy; cases hy)
 have hw : ∀ {a b : Nat} {z : Oper}, ops[a]? = some z -> isAlloc z = true -> waits ops a b = false := fun {a b z} hz az => by
  cases hw : waits ops a b with
  | false => rfl
  | true =>
   obtain ⟨o, ho, e, he, _⟩ := waits_edge hw
   rw [hz] at ho
   cases ho
   obtain ⟨_, h2, _⟩ := (drawOk_shape h hz).2.1 az
   rw [h2] at he
   simp at he
 rcases Nat.decEq i j with hne | e
 ·exfalso
  rcases split_two hi hj hne with ⟨A, B, e, hm⟩ | ⟨A, B, e, hm⟩
  ·obtain ⟨x', y', hx', hy', ha, _⟩ := drawOk_pair h e hm (hw hy ay)
   rw [hx] at hx'; rw [hy] at hy'; cases hx'; cases hy'
   exact (apart_spec ha).2.1 s sx sy
  ·obtain ⟨x', y', hx', hy', ha, _⟩ := drawOk_pair h e hm (hw hx ax)
   rw [hy] at hx'; rw [hx] at hy'; cases hx'; cases hy'
   exact (apart_spec ha).2.1 s sy sx
 ·exact e
theorem filter_split {D p : Nat -> Bool} {A B : List Nat} {i : Nat} (hi : D i = false) (hA : ∀ z ∈ A, p z = true -> D z = true) (hB : ∀ z ∈ B, p z = true -> D z = false) : ((A ++ i :: B).filter D).filter p = A.filter p := by
 rw [List.filter_append, List.filter_cons, hi]
 simp only [Bool.false_eq_true, if_false, List.filter_append]
 have h1 : (A.filter D).filter p = A.filter p := by
  rw [List.filter_filter]
  apply List.filter_congr
  intro z hz
  cases hp : p z with
  | false => simp
  | true => simp [hA z hz hp]
 have h2 : (B.filter D).filter p = [] := by
  rw [List.filter_filter, List.filter_eq_nil_iff]
  intro z hz
  cases hp : p z with
  | false => simp
  | true => simp [hB z hz hp]
 rw [h1, h2, List.append_nil]
theorem filter_add {D : Nat -> Bool} {A B : List Nat} {i : Nat} (hn : (A ++ i :: B).Nodup) (hi : D i = false) : (A ++ i :: B).filter (addD D i) = A.filter D ++ i :: B.filter D := by
 rw [List.filter_append, List.filter_cons]
 have hii : addD D i i = true := by simp [addD]
 rw [hii, if_pos rfl]
 have hne : ∀ z, z ∈ A \/ z ∈ B -> z ≠ i := by
  rw [List.nodup_append] at hn
  obtain ⟨_, h2, h3⟩ := hn
  rintro z (hz | hz) rfl
  ·exact h3 z hz z (by simp) rfl
  ·exact (List.nodup_cons.1 h2).1 hz
 have hc : ∀ l : List Nat, (∀ z ∈ l, z ≠ i) -> l.filter (addD D i) = l.filter D := fun l hl => by
  apply List.filter_congr
  intro z hz
  simp [addD, hl z hz]
 rw [hc A fun z hz => hne z (.inl hz), hc B fun z hz => hne z (.inr hz)]
theorem filter_plain {D : Nat -> Bool} {A B : List Nat} {i : Nat} (hi : D i = false) : (A ++ i :: B).filter D = A.filter D ++ B.filter D := by
 rw [List.filter_append, List.filter_cons, hi]; rfl
theorem first_with (p : Nat -> Bool) : ∀ (l : List Nat), (∃ x ∈ l, p x = true) -> ∃ A x B, l = A ++ x :: B /\ p x = true /\ ∀ z ∈ A, p z = false := by
 intro l
 induction l with
 | nil => rintro ⟨x, hx, _⟩; simp at hx
 | cons a l ih =>
  intro h
  cases ha : p a with
  | true => exact ⟨[], a, l, rfl, ha, by simp⟩
  | false =>
   obtain ⟨x, hx, hp⟩ := h
   have hx : x ∈ l := by
    rcases List.mem_cons.1 hx with rfl | hx
    ·rw [ha] at hp; cases hp
    ·exact hx
   obtain ⟨A, y, B, e, h1, h2⟩ := ih ⟨x, hx, hp⟩
   refine ⟨a :: A, y, B, by rw [e]; rfl, h1, fun z hz => ?_⟩
   rcases List.mem_cons.1 hz with rfl | hz
   ·exact ha
   ·exact h2 z hz
theorem last_with (p : Nat -> Bool) : ∀ (l : List Nat), (∃ x ∈ l, p x = true) -> ∃ A x B, l = A ++ x :: B /\ p x = true /\ ∀ z ∈ B, p z = false := by
 intro l
 induction l with
 | nil => rintro ⟨x, hx, _⟩; simp at hx
 | cons a l ih =>
  intro h
  by_cases hl : ∃ x ∈ l, p x = true
  ·obtain ⟨A, y, B, e, h1, h2⟩ := ih hl
   exact ⟨a :: A, y, B, by rw [e]; rfl, h1, h2⟩
  ·obtain ⟨x, hx, hp⟩ := h
   rcases List.mem_cons.1 hx with rfl | hx
   ·refine ⟨[], x, l, rfl, hp, fun z hz => ?_⟩
    cases h : p z with
    | false => rfl
    | true => exact absurd ⟨z, hz, h⟩ hl
   ·exact absurd ⟨x, hx, hp⟩ hl
end
end Go.AM
namespace Go.AM
open Go
variable [Keep]
section
variable {X : Ctx} {P : Program} {w w' : World} {C : Cfg} {lam : Nat -> Option Nat} {ms : List Nat} {F : Fr} {b : Frame} {a : Act} {cs : List Frame}
theorem St.withE (s : St C lam ms F b a w cs) {e : Mp AV} (h : ∀ t, ({ F with e := e } : Fr).tmp t = .junk \/ ({ F with e := e } : Fr).tmp t = F.tmp t) : St C lam ms { F with e := e } b a w cs :=
  { wr := s.wr, box := s.box, inj := s.inj, mark := s.mark, nodup := s.nodup, live := s.live, osig := s.osig, df := s.df, up := s.up, fn := s.fn, rnd := s.rnd,
    env := fun t => by
      rcases h t with h | h
      · rw [h]; trivial
      · rw [h]; exact s.env t }
def lamDrop (lam : Nat -> Option Nat) (t : Nat) : Nat -> Option Nat := fun s => if s = t then none else lam s
theorem own_drop {t β : Nat} (h : Own (lamDrop lam t) ms β) : Own lam ms β := by
 rcases h with ⟨s, hs⟩ | h
 ·unfold lamDrop at hs
  split at hs
  ·cases hs
  ·exact .inl ⟨s, hs⟩
 ·exact .inr h
theorem St.prepBox (s : St C lam ms F b a w cs) {t : Nat} {cells : List AV} : St C (lamDrop lam t) ms { F with lm := F.lm.set t (nextGen F.lm t, cells) } b a w cs := by
 refine { wr := s.wr, env := fun t' => ?_, box := fun t' β ht => ?_, inj := fun t1 t2 β h1 h2 => ?_, mark := s.mark, nodup := s.nodup, live := fun β ho => s.live β (own_drop ho), osig := fun β x v ho => s.osig β x v (own_drop ho), df := s.df, up := s.up, fn := s.fn, rnd := s.rnd }
 ·have := s.env t'
  show SR C (lamDrop lam t) (F.lm.set t (nextGen F.lm t, cells)) (F.tmp t') _
  revert this
  cases F.tmp t' <;> intro this <;> first | exact this | skip
  rename_i s' g1 off
  obtain ⟨g', cs', β', k1, k2, k3, k4⟩ := this
  by_cases e : t = s'
  ·subst e
   have hn : nextGen F.lm t = g' + 1 := by simp [nextGen, k1]
   refine ⟨nextGen F.lm t, cells, β', by simp, by omega, k3, fun e' => ?_⟩
   omega
  ·refine ⟨g', cs', β', by simp [e, k1], k2, k3, fun e' => ?_⟩
   unfold lamDrop
   rw [if_neg (fun h => e h.symm)]
   exact k4 e'
 ·unfold lamDrop at ht
  split at ht
  ·cases ht
  ·rename_i e
   obtain ⟨g1, cells1, c1, k1, k2⟩ := s.box t' β ht
   exact ⟨g1, cells1, c1, by show (F.lm.set t _).get t' = _; rw [Mp.get_set, if_neg (fun h => e h.symm)]; exact k1, k2⟩
 ·unfold lamDrop at h1 h2
  split at h1
  ·cases h1
  ·split at h2
   ·cases h2
   ·exact s.inj t1 t2 β h1 h2
theorem Ext.drop {h : Heap} {t : Nat} : Ext C h (Own lam ms) w C h (Own (lamDrop lam t) ms) w :=
 { Ext.refl C h (Own lam ms) w with own := fun _ _ o => .inr (own_drop o) }
theorem prepAll_ok : ∀ (l : List Oper) (lam : Nat -> Option Nat) (F F0 : Fr), St C lam ms F b a w cs -> prepAll X l F = some F0 ->
  ∃ lam0, St C lam0 ms F0 b a w cs /\ Ext C F.hp (Own lam ms) w C F0.hp (Own lam0 ms) w /\ (∀ s, lam s = none -> lam0 s = none) /\ (∀ o ∈ l, isAlloc o = true -> ∀ s, o.dst = some s -> lam0 s = none) /\ F0.e = F.e /\ F0.f = F.f := by
 intro l
 induction l with
 | nil =>
  intro lam F F0 s h
  simp only [prepAll, Option.some.injEq] at h
  subst h
  exact ⟨lam, s, .refl _ _ _ _, fun _ h => h, by simp, rfl, rfl⟩
 | cons o l ih =>
  intro lam F F0 s h
  simp only [prepAll] at h
  split at h
  ·rename_i t d ho hd
   split at h
   ·rename_i z hz
    split at h
    ·cases h
    ·obtain ⟨lam0, h1, h2, h3, h4, h5, h6⟩ := ih _ _ _ (s.prepBox (t := d) (cells := z.cells)) h
     refine ⟨lam0, h1, Ext.drop.trans h2, fun s hs => h3 s (by unfold lamDrop; split <;> first | rfl | exact hs), fun o' ho' ha s hs => ?_, h5, h6⟩
     rcases List.mem_cons.1 ho' with rfl | ho'
     ·rw [hd] at hs
      cases hs
      exact h3 d (by simp [lamDrop])
     ·exact h4 o' ho' ha s hs
   ·cases h
  ·cases h
  ·rename_i hne1 hne2
   obtain ⟨lam0, h1, h2, h3, h4, h5, h6⟩ := ih _ _ _ s h
   refine ⟨lam0, h1, h2, h3, fun o' ho' ha s hs => ?_, h5, h6⟩
   rcases List.mem_cons.1 ho' with rfl | ho'
   ·unfold isAlloc at ha
    split at ha
    ·rename_i t e; exact absurd hs (hne1 t s e)
    ·cases ha
   ·exact h4 o' ho' ha s hs
theorem prepAll_other : ∀ (l : List Oper) (F F0 : Fr) (s : Tmp), prepAll X l F = some F0 -> (¬ ∃ o ∈ l, ∃ t, o.op = .alloc t /\ o.dst = some s) -> F0.lm.get s = F.lm.get s := by
 intro l
 induction l with
 | nil => intro F F0 s h _; simp only [prepAll, Option.some.injEq] at h; rw [h]
 | cons o l ih =>
  intro F F0 s h hn
  have hn' : ¬ ∃ o ∈ l, ∃ t, o.op = .alloc t /\ o.dst = some s := fun ⟨o', h1, h2⟩ => hn ⟨o', by simp [h1], h2⟩
  simp only [prepAll] at h
  split at h
  ·rename_i t d ho hd
   split at h
   ·split at h
    ·cases h
    ·have := ih _ _ s h hn'
     rw [this]
     show (F.lm.set d _).get s = _
     rw [Mp.get_set, if_neg]
     intro e
     subst e
     exact hn ⟨o, by simp, t, ho, hd⟩
   ·cases h
  ·cases h
  ·exact ih _ _ s h hn'
theorem prepAll_get : ∀ (l : List Oper) (F F0 : Fr) (s : Tmp) (t : TypeId), prepAll X l F = some F0 -> (∀ o ∈ l, ∀ t', o.op = .alloc t' -> o.dst = some s -> t' = t) -> (∃ o ∈ l, o.op = .alloc t /\ o.dst = some s) ->
  ∃ z g, zeroT X.P t = some z /\ isTuple z = false /\ F0.lm.get s = some (g, z.cells) := by
 intro l
 induction l with
 | nil => rintro F F0 s t _ _ ⟨o, ho, _⟩; simp at ho
 | cons o l ih =>
  intro F F0 s t h hu hex
  have hu' : ∀ o ∈ l, ∀ t', o.op = .alloc t' -> o.dst = some s -> t' = t := fun o' ho' => hu o' (by simp [ho'])
  by_cases hl : ∃ o ∈ l, ∃ t, o.op = .alloc t /\ o.dst = some s
  ·obtain ⟨o', h1, t', h2, h3⟩ := hl
   have := hu' o' h1 t' h2 h3
   subst this
   simp only [prepAll] at h
   split at h
   ·split at h
    ·split at h
     ·cases h
     ·exact ih _ _ s _ h hu' ⟨o', h1, h2, h3⟩
    ·cases h
   ·cases h
   ·exact ih _ _ s _ h hu' ⟨o', h1, h2, h3⟩
  ·obtain ⟨o', h1, h2, h3⟩ := hex
   rcases List.mem_cons.1 h1 with rfl | h1
   ·simp only [prepAll, h2, h3] at h
    split at h
    ·rename_i z hz
     split at h
     ·cases h
     ·rename_i ht
      refine ⟨z, nextGen F.lm s, hz, by simpa using ht, ?_⟩
      rw [prepAll_other l _ _ s h hl]
      simp
    ·cases h
   ·exact absurd ⟨o', h1, t, h2, h3⟩ hl
theorem St.layBox (s : St C lam ms F b a w cs) {t g : Nat} {cells : List AV} {c : Array Value} {T : TypeId} (hl : lam t = none) (hg : F.lm.get t = some (g, cells)) (hr : VRs C cells c) (h1 : ∀ x ∈ cells, x.one = true) :
    let w' : World := { w with heap := w.heap.push (.cells c T) }
    let lam' := lamSet lam t w.heap.size
    SR C lam' F.lm (.lptr t g 0) (.pointer (some ⟨w.heap.size, 0, none⟩)) /\ St C lam' ms F b a w' cs /\ Ext C F.hp (Own lam ms) w C F.hp (Own lam' ms) w' := by
  intro w' lam'
  have hh : w'.heap = w.heap.push (.cells c T) := rfl
  have hown : ∀ β, Own lam' ms β -> Own lam ms β \/ β = w.heap.size := by
    rintro β (⟨t', ht⟩ | h)
    · simp only [lam', lamSet] at ht
      split at ht
      · cases ht; exact .inr rfl
      · exact .inl (.inl ⟨t', ht⟩)
    · exact .inl (.inr h)
  refine ⟨⟨g, cells, w.heap.size, hg, Nat.le_refl _, rfl, fun _ => by simp [lam', lamSet]⟩, ?_, ?_⟩
  · refine { wr := ⟨fun x v h => ?_, fun id blk h => ?_, s.wr.inj, s.wr.apart, s.wr.fresh, s.wr.base.on (fun _ _ e => e) (fun x v e => heap_push hh (s.wr.sig_lt e))⟩, env := fun t' => ?_, box := fun t' β ht => ?_, inj := fun t1 t2 β h1 h2 => ?_,
             mark := fun m hm => (heap_push hh (s.own_lt (.inr hm))).trans (s.mark m hm), nodup := s.nodup, live := fun β ho l => ?_, osig := fun β x v ho h e => ?_, df := s.df, up := s.up, fn := s.fn, rnd := s.rnd }
    · have hb := s.wr.sig_lt h
      have := s.wr.sig x v h
      unfold World.cell? at this ⊢
      rw [heap_push hh hb]
      exact this
    · obtain ⟨L, k1, k2⟩ := s.wr.blk id blk h
      exact ⟨L, k1, k2.same (.refl C) (heap_push hh k2.lt)⟩
    · have := s.env t'
      revert this
      cases F.tmp t' <;> intro this <;> first | exact this | skip
      rename_i s' g1 off
      obtain ⟨g', cs', β', k1, k2, k3, k4⟩ := this
      refine ⟨g', cs', β', k1, k2, k3, fun e' => ?_⟩
      have k5 := k4 e'
      simp only [lam', lamSet]
      split
      · rename_i e
        subst e
        rw [hl] at k5
        cases k5
      · exact k5
    · simp only [lam', lamSet] at ht
      split at ht
      · rename_i e
        subst e
        cases ht
        exact ⟨g, cells, c, hg, ⟨T, 0, 0, by simp [w'], .inl (Nat.le_refl _)⟩, hr, h1⟩
      · obtain ⟨g, cells', c', k1, k2, k3, k4⟩ := s.box t' β ht
        exact ⟨g, cells', c', k1, k2.same (heap_push hh k2.lt), k3, k4⟩
    · simp only [lam', lamSet] at h1 h2
      split at h1 <;> split at h2
      · rename_i e1 e2; rw [e1, e2]
      · cases h1
        have := s.own_lt (.inl ⟨t2, h2⟩)
        omega
      · cases h2
        have := s.own_lt (.inl ⟨t1, h1⟩)
        omega
      · exact s.inj t1 t2 β h1 h2
    · rcases hown β ho with ho | rfl
      · exact s.live β ho l
      · have := s.wr.live_lt l
        omega
    · rcases hown β ho with ho | rfl
      · exact s.osig β x v ho h e
      · have := s.wr.sig_lt h
        omega
  · exact { le := .refl C, os := rfl, tape := rfl, output := rfl, size := by simp [w'], same := fun β h _ _ => heap_push hh h, live := fun β _ l => .inl l, own := fun β hb o => by
              rcases hown β o with o | rfl
              · exact .inr o
              · omega
            sig := fun _ _ _ h => .inl h, next := Nat.le_refl _ }
theorem write_lm {cl : FuncId -> List AV -> Heap -> COut} (s : St C lam ms F b a w cs) {p : Operand} {pv : AV} {vs : List AV} {F' : Fr} {t : Tmp} (hp : F.opd p = some pv) (h : F.write pv vs = some F') (hl : lam t = none) : F'.lm.get t = F.lm.get t := by
 unfold Fr.write at h
 split at h
 ·rename_i s' g off
  split at h
  ·rename_i g' cells hg
   split at h
   ·rename_i hh
    cases h
    obtain ⟨rfl, _⟩ := hh
    show (F.lm.set s' _).get t = _
    rw [Mp.get_set, if_neg]
    intro e
    subst e
    have hs := s.opd hp
    obtain ⟨g1, cs1, β, e1, _, _, e2⟩ := hs
    rw [hg] at e1
    cases e1
    have := e2 rfl
    rw [hl] at this
    cases this
   ·cases h
  ·cases h
 ·split at h
  ·split at h
   ·cases h; rfl
   ·cases h
  ·cases h
 ·split at h
  ·split at h
   ·split at h
    ·split at h
     ·cases h; rfl
     ·cases h
    ·cases h
   ·cases h
  ·cases h
 ·cases h
theorem append_lm {t : TypeId} {x v : AV} {new : List AV} {F' : Fr} (h : appendV P F t x new = some (v, F')) : F'.lm = F.lm := by
 unfold appendV at h
 (repeat' split at h) <;> first | (cases h; done) | (cases h; rfl)
theorem out_lm {r : COut} {v : AV} {F' : Fr} (h : outOf F r = .val v F') : F'.lm = F.lm := by
 cases r <;> simp [outOf] at h
 obtain ⟨_, rfl⟩ := h
 rfl
theorem ef_lm {cl : FuncId -> List AV -> Heap -> COut} {rd : Nat -> List AV -> Heap -> COut} (s : St C lam ms F b a w cs) {d : Option Tmp} {op : Op} {v : AV} {F' : Fr} {t : Tmp} (hb : boxy op = false) (h : efV X cl rd F d op = .val v F') (hl : lam t = none) : F'.lm.get t = F.lm.get t := by
 have same : F'.lm = F.lm -> F'.lm.get t = F.lm.get t := fun h => by rw [h]
 cases op <;> simp only [efV] at h <;> first | (cases h; done) | (simp [boxy] at hb; done) | skip
 case store ty p x =>
  unfold Fr.storeE at h
  split at h
  ·rename_i pv xv hp hx
   split at h
   ·split at h
    ·split at h
     ·rename_i hw; cases h; exact write_lm (cl := cl) s hp hw hl
     ·cases h
    ·cases h
   ·cases h
  ·cases h
 case buildSlice ty n ps => refine same ?_; unfold Fr.rowE at h; (repeat' split at h) <;> first | (cases h; done) | (cases h; rfl)
 case makeMap ty r => refine same ?_; unfold Fr.mapE at h; (repeat' split at h) <;> first | (cases h; done) | (cases h; rfl)
 case makeSlice ty l c => refine same ?_; unfold Fr.makeSliceE at h; (repeat' split at h) <;> first | (cases h; done) | (cases h; rfl)
 case mapUpdate ty m k x => refine same ?_; unfold Fr.mapUpdateE at h; (repeat' split at h) <;> first | (cases h; done) | (cases h; rfl)
 case range ty x => refine same ?_; unfold Fr.rangeE at h; (repeat' split at h) <;> first | (cases h; done) | (cases h; rfl)
 case next x st => refine same ?_; unfold Fr.nextE at h; (repeat' split at h) <;> first | (cases h; done) | (cases h; rfl)
 case defer c => refine same ?_; unfold Fr.deferE at h; (repeat' split at h) <;> first | (cases h; done) | (cases h; rfl)
 case panic x => refine same ?_; unfold Fr.panicE at h; (repeat' split at h) <;> first | (cases h; done) | (cases h; rfl)
 case call c =>
  refine same ?_
  unfold Fr.callOp at h
  split at h
  ·unfold Fr.callE at h
   split at h
   ·exact out_lm h
   ·cases h
  ·unfold Fr.invokeE at h
   split at h
   ·split at h
    ·exact out_lm h
    ·cases h
   ·cases h
  ·unfold Fr.builtinE at h
   split at h
   ·unfold Fr.appendE at h
    (repeat' split at h) <;> first | (cases h; done) | exact append_lm (okO_val h)
   ·split at h
    ·unfold Fr.panicE at h; (repeat' split at h) <;> first | (cases h; done) | (cases h; rfl)
    ·cases h
   ·split at h
    ·unfold Fr.recoverE at h; (repeat' split at h) <;> first | (cases h; done) | (cases h; rfl)
    ·cases h
   ·cases h
theorem stepOp_lm {cl : FuncId -> List AV -> Heap -> COut} {rd : Nat -> List AV -> Heap -> COut} {ops : Array Oper} (s : St C lam ms F b a w cs) {o : Oper} {v : AV} {F' : Fr} {t : Tmp} (hb : boxy o.op = false) (h : stepOp X cl rd ops o F = .val v F') (hl : lam t = none) : F'.lm.get t = F.lm.get t := by
 have put : ∀ (G : Fr) u, (G.put o.dst u).lm = G.lm := fun G u => by cases o.dst <;> rfl
 unfold stepOp at h
 split at h
 ·cases h
 ·split at h
  ·split at h
   ·split at h
    ·rename_i v1 F1 e1
     cases h
     rw [put]
     exact ef_lm s hb e1 hl
    ·rename_i r hne
     rw [h] at hne
     exact absurd rfl (hne v F')
   ·split at h
    ·cases h; rw [put]
    ·cases h
  ·cases h; rw [put]
end
end Go.AM
