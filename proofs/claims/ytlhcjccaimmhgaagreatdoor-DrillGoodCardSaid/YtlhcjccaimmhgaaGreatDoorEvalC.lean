/-
  Soundness of the evaluator: regions whose order is open; functions as a whole.
-/
import Derived.Test.YtlhcjccaimmhgaaGreatDoorEvalB
import Derived.Orders
set_option linter.unusedSimpArgs false
set_option linter.unusedVariables false
set_option linter.unusedSectionVars false
namespace Go.AM
open Go
variable [Keep]
section
variable {F G : Fr} {P : Program}
theorem opv_congr {x : Operand} (h : G.opd x = F.opd x) : G.opv x = F.opv x := by unfold Fr.opv; rw [h]
theorem opvs_congr : ∀ {l : List Operand}, (∀ x ∈ l, G.opd x = F.opd x) → G.opvs l = F.opvs l := by
  intro l
  induction l with
  | nil => intro _; rfl
  | cons x l ih =>
    intro h
    simp only [Fr.opvs]
    rw [opv_congr (h x (by simp)), ih (fun y hy => h y (by simp [hy]))]
theorem parts_congr : ∀ {l : List (Nat × Operand)}, (∀ p ∈ l, G.opd p.2 = F.opd p.2) → G.parts l = F.parts l := by
  intro l
  induction l with
  | nil => intro _; rfl
  | cons p l ih =>
    intro h
    obtain ⟨i, x⟩ := p
    simp only [Fr.parts]
    rw [opv_congr (h (i, x) (by simp)), ih (fun y hy => h y (by simp [hy]))]
theorem mem_congr (h1 : G.lm = F.lm) (h2 : G.hp = F.hp) (p : AV) : G.mem p = F.mem p := by
  unfold Fr.mem
  rw [h1, h2]
theorem rd_congr {X : Ctx} {d : Option Tmp} {op : Op} (ho : ∀ x ∈ op.operands.toList, G.opd x = F.opd x) (h1 : G.lm = F.lm) (h2 : G.hp = F.hp) : rdV X G d op = rdV X F d op := by
  cases op <;> simp only [rdV]
  case move x => exact ho x (by simp [Op.operands])
  case assign x => exact ho x (by simp [Op.operands])
  case pick c x y => simp only [Fr.pickV]; rw [opv_congr (ho c (by simp [Op.operands])), opv_congr (ho x (by simp [Op.operands])), opv_congr (ho y (by simp [Op.operands]))]
  case alloc t => simp only [Fr.allocV]; rw [h1]
  case build t ps => simp only [Fr.buildV]; rw [parts_congr (fun p hp => ho p.2 (by simp only [Op.operands]; exact List.mem_map_of_mem hp))]
  case buildSlice t n ps => simp only [Fr.buildSliceV]; rw [parts_congr (fun p hp => ho p.2 (by simp only [Op.operands]; exact List.mem_map_of_mem hp))]
  case load t x => simp only [Fr.loadV]; rw [ho x (by simp [Op.operands])]; split <;> first | rfl | rw [mem_congr h1 h2]
  case nilCheck x => simp only [Fr.nilCheckV]; rw [ho x (by simp [Op.operands])]
  case binOp bo t x y p => simp only [Fr.binV2]; rw [opv_congr (ho x (by simp [Op.operands])), opv_congr (ho y (by simp [Op.operands]))]
  case unOp uo t x => simp only [Fr.unV1]; rw [opv_congr (ho x (by simp [Op.operands]))]
  case convert t u x => simp only [Fr.convV1]; rw [opv_congr (ho x (by simp [Op.operands]))]
  case makeInterface t x => simp only [Fr.ifaceV]; rw [opv_congr (ho x (by simp [Op.operands]))]
  case makeFunc fn p q => simp only [Fr.funcV]; rw [opvs_congr (fun x hx => ho x (by simp only [Op.operands, Array.toList_append]; exact List.mem_append_left _ hx)), opvs_congr (fun x hx => ho x (by simp only [Op.operands, Array.toList_append]; exact List.mem_append_right _ hx))]
  case slice t x lo hi mx =>
    simp only [Fr.sliceV1]
    rw [opv_congr (ho x (by simp [Op.operands])), h2]
    have e1 : lo.map G.opv = lo.map F.opv := by cases lo with | none => rfl | some y => simp [opv_congr (ho y (by simp [Op.operands]))]
    have e2 : hi.map G.opv = hi.map F.opv := by cases hi with | none => rfl | some y => simp [opv_congr (ho y (by simp [Op.operands]))]
    have e3 : mx.map G.opv = mx.map F.opv := by cases mx with | none => rfl | some y => simp [opv_congr (ho y (by simp [Op.operands]))]
    rw [e1, e2, e3]
  case fieldAddr t x f => simp only [Fr.fieldAddrV]; rw [ho x (by simp [Op.operands])]
  case field t x f => simp only [Fr.fieldV]; rw [opv_congr (ho x (by simp [Op.operands]))]
  case indexAddr t x i => simp only [Fr.indexAddrV1]; rw [ho x (by simp [Op.operands]), opv_congr (ho i (by simp [Op.operands])), h2]
  case index t x i => simp only [Fr.indexV1]; rw [opv_congr (ho x (by simp [Op.operands])), opv_congr (ho i (by simp [Op.operands]))]
  case lookup t x i ok => simp only [Fr.lookupV1]; rw [opv_congr (ho x (by simp [Op.operands])), opv_congr (ho i (by simp [Op.operands])), h2]
  case typeAssert x t u ok => simp only [Fr.assertV1]; rw [opv_congr (ho x (by simp [Op.operands]))]
  case extract x i => simp only [Fr.extractV]; rw [opv_congr (ho x (by simp [Op.operands]))]
  case call c =>
    simp only [Fr.callRd]
    split
    · simp only [Fr.builtinV1]
      rw [opvs_congr (fun x hx => ho x (by simp only [Op.operands, Call.operands, Array.toList_append]; exact List.mem_append_right _ hx)), h2]
    · rfl
theorem rd_blind {X : Ctx} {d : Option Tmp} {o : Oper} (hr : mayRead o = false) (ha : isAlloc o = false) (ho : ∀ x ∈ o.op.operands.toList, G.opd x = F.opd x) : rdV X G d o.op = rdV X F d o.op := by
  unfold mayRead at hr
  unfold isAlloc at ha
  revert hr ha ho
  generalize o.op = op
  intro hr ha ho
  cases op <;> simp only [rdV] <;> simp at hr ha
  case move x => exact ho x (by simp [Op.operands])
  case assign x => exact ho x (by simp [Op.operands])
  case pick c x y => simp only [Fr.pickV]; rw [opv_congr (ho c (by simp [Op.operands])), opv_congr (ho x (by simp [Op.operands])), opv_congr (ho y (by simp [Op.operands]))]
  case build t ps => simp only [Fr.buildV]; rw [parts_congr (fun p hp => ho p.2 (by simp only [Op.operands]; exact List.mem_map_of_mem hp))]
  case buildSlice t n ps => simp only [Fr.buildSliceV]; rw [parts_congr (fun p hp => ho p.2 (by simp only [Op.operands]; exact List.mem_map_of_mem hp))]
  case nilCheck x => simp only [Fr.nilCheckV]; rw [ho x (by simp [Op.operands])]
  case binOp bo t x y p => simp only [Fr.binV2]; rw [opv_congr (ho x (by simp [Op.operands])), opv_congr (ho y (by simp [Op.operands]))]
  case unOp uo t x => simp only [Fr.unV1]; rw [opv_congr (ho x (by simp [Op.operands]))]
  case convert t u x => simp only [Fr.convV1]; rw [opv_congr (ho x (by simp [Op.operands]))]
  case makeInterface t x => simp only [Fr.ifaceV]; rw [opv_congr (ho x (by simp [Op.operands]))]
  case makeFunc fn p q => simp only [Fr.funcV]; rw [opvs_congr (fun x hx => ho x (by simp only [Op.operands, Array.toList_append]; exact List.mem_append_left _ hx)), opvs_congr (fun x hx => ho x (by simp only [Op.operands, Array.toList_append]; exact List.mem_append_right _ hx))]
  case fieldAddr t x f => simp only [Fr.fieldAddrV]; rw [ho x (by simp [Op.operands])]
  case field t x f => simp only [Fr.fieldV]; rw [opv_congr (ho x (by simp [Op.operands]))]
  case index t x i => simp only [Fr.indexV1]; rw [opv_congr (ho x (by simp [Op.operands])), opv_congr (ho i (by simp [Op.operands]))]
  case typeAssert x t u ok => simp only [Fr.assertV1]; rw [opv_congr (ho x (by simp [Op.operands]))]
  case extract x i => simp only [Fr.extractV]; rw [opv_congr (ho x (by simp [Op.operands]))]
def setE (e : Mp AV) : OOut → OOut
  | .val v F => .val v { F with e := e }
  | .pan v F => .pan v { F with e := e }
  | .fail => .fail
def setEo (e : Mp AV) : Option Fr → Option Fr
  | some F => some { F with e := e }
  | none => none
def setEp (e : Mp AV) : Option (AV × Fr) → Option (AV × Fr)
  | some (v, F) => some (v, { F with e := e })
  | none => none
theorem write_setE {e : Mp AV} {p : AV} {vs : List AV} : ({ F with e := e } : Fr).write p vs = setEo e (F.write p vs) := by
  unfold Fr.write
  split
  · simp only
    split
    · split <;> rfl
    · rfl
  · simp only
    split
    · split <;> rfl
    · rfl
  · simp only
    split
    · split
      · split
        · split <;> rfl
        · rfl
      · rfl
    · rfl
  · rfl
theorem append_setE {e : Mp AV} {t : TypeId} {x : AV} {new : List AV} : appendV P { F with e := e } t x new = setEp e (appendV P F t x new) := by
  unfold appendV
  split
  · rfl
  · split
    · rfl
    · split
      · split <;> rfl
      · split
        · simp only; split <;> rfl
        · simp only; split <;> rfl
        · simp only
          split
          · split <;> rfl
          · rfl
        · rfl
theorem ef_congr {X : Ctx} {cl : FuncId → List AV → Heap → COut} {rd : Nat → List AV → Heap → COut} {e : Mp AV} {d : Option Tmp} {op : Op} (hb : boxy op = false) (ho : ∀ x ∈ op.operands.toList, ({ F with e := e } : Fr).opd x = F.opd x) :
    efV X cl rd { F with e := e } d op = setE e (efV X cl rd F d op) := by
  have hv : ∀ x ∈ op.operands.toList, ({ F with e := e } : Fr).opv x = F.opv x := fun x hx => opv_congr (ho x hx)
  cases op <;> simp only [efV] <;> first | (simp [boxy] at hb; done) | skip
  case store t p x =>
    simp only [Fr.storeE]
    rw [ho p (by simp [Op.operands]), hv x (by simp [Op.operands])]
    split
    · split
      · split
        · rw [write_setE]
          cases Fr.write F _ _ <;> rfl
        · rfl
      · rfl
    · rfl
  case buildSlice t n ps =>
    simp only [Fr.rowE, Fr.buildSliceV]
    rw [parts_congr (fun p hp => ho p.2 (by simp only [Op.operands]; exact List.mem_map_of_mem hp))]
    split <;> rfl
  case makeMap t r => simp only [Fr.mapE]; split <;> rfl
  case makeSlice t l c =>
    simp only [Fr.makeSliceE]
    rw [hv l (by simp [Op.operands]), hv c (by simp [Op.operands])]
    split
    · split
      · split <;> rfl
      · rfl
    · rfl
  case mapUpdate t m k x =>
    simp only [Fr.mapUpdateE]
    rw [hv m (by simp [Op.operands]), hv k (by simp [Op.operands]), hv x (by simp [Op.operands])]
    split
    · split
      · split
        · split <;> rfl
        · rfl
      · rfl
    · rfl
  case range t x =>
    simp only [Fr.rangeE]
    rw [hv x (by simp [Op.operands])]
    split <;> rfl
  case next x st =>
    simp only [Fr.nextE]
    rw [hv x (by simp [Op.operands])]
    split
    · split
      · split <;> rfl
      · rfl
    · rfl
  case defer c =>
    simp only [Fr.deferE]
    split
    · rename_i f hf hr
      rw [hv f (by simp [Op.operands, Call.operands, hf]), opvs_congr (fun x hx => ho x (by simp only [Op.operands, Call.operands, Array.toList_append]; exact List.mem_append_right _ hx))]
      split <;> rfl
    · rfl
  case panic x =>
    simp only [Fr.panicE]
    rw [hv x (by simp [Op.operands])]
    split <;> rfl
  case call c =>
    have hargs : ({ F with e := e } : Fr).opvs c.args.toList = F.opvs c.args.toList := opvs_congr (fun x hx => ho x (by simp only [Op.operands, Call.operands, Array.toList_append]; exact List.mem_append_right _ hx))
    have hout : ∀ r, outOf { F with e := e } r = setE e (outOf F r) := fun r => by cases r <;> rfl
    simp only [Fr.callOp]
    split
    · rename_i f hf
      simp only [Fr.callE]
      rw [hv f (by simp [Op.operands, Call.operands, hf]), hargs]
      split
      · exact hout _
      · rfl
    · rename_i x name hf
      simp only [Fr.invokeE]
      rw [hv x (by simp [Op.operands, Call.operands, hf]), hargs]
      split
      · split
        · exact hout _
        · rfl
      · rfl
    · rename_i bi hf
      simp only [Fr.builtinE]
      split
      · simp only [Fr.appendE]
        rw [hargs]
        have hok : ∀ t x new, okO (appendV X.P { F with e := e } t x new) = setE e (okO (appendV X.P F t x new)) := fun t x new => by
          rw [append_setE]
          cases appendV X.P F t x new with
          | none => rfl
          | some p => rfl
        split
        · split
          · split
            · exact hok _ _ _
            · rfl
          · split
            · rfl
            · split
              · exact hok _ _ _
              · rfl
          · rfl
        · rfl
      · split
        · rename_i x hx
          have hx' : x ∈ c.args.toList := by rw [hx]; simp
          simp only [Fr.panicE]
          rw [hv x (by simp only [Op.operands, Call.operands, Array.toList_append]; exact List.mem_append_right _ hx')]
          split <;> rfl
        · rfl
      · split
        · simp only [Fr.recoverE]
          split
          · rfl
          · split <;> rfl
        · rfl
      · rfl
  all_goals rfl
end
end Go.AM
namespace Go.AM
open Go
variable [Keep]
section
variable {F G : Fr} {ops : Array Oper} {o : Oper}
def Agree (ops : Array Oper) (o : Oper) (F G : Fr) : Prop := ∀ t ∈ looksAt ops o, F.e.get t = G.e.get t
theorem Agree.opd (h : Agree ops o F G) : ∀ x ∈ o.op.operands.toList, F.opd x = G.opd x := by
  intro x hx
  cases x with
  | tmp t =>
    have ht : t ∈ looksAt ops o := by
      unfold looksAt
      exact List.mem_append_left _ (List.mem_filterMap.2 ⟨.tmp t, hx, rfl⟩)
    simp only [Fr.opd, Fr.tmp]
    rw [h t ht]
  | _ => rfl
theorem Agree.yielded (h : Agree ops o F G) {j : Nat} {b : Bool} (hg : o.guard = some (j, b)) : yieldedA ops F j = yieldedA ops G j := by
  unfold yieldedA
  cases hj : ops[j]? with
  | none => rfl
  | some p =>
    simp only
    cases hd : p.dst with
    | none => rfl
    | some t =>
      have ht : t ∈ looksAt ops o := by
        unfold looksAt
        refine List.mem_append_right _ ?_
        rw [hg]
        simp [hj, hd]
      simp only
      rw [h t ht]
theorem Agree.wanted (h : Agree ops o F G) : wantedA ops F o = wantedA ops G o := by
  unfold wantedA
  cases hg : o.guard with
  | none => rfl
  | some p => obtain ⟨j, b⟩ := p; simp only; rw [h.yielded hg]
theorem Agree.guardOk (h : Agree ops o F G) : guardOk ops F o = guardOk ops G o := by
  unfold Go.AM.guardOk
  cases hg : o.guard with
  | none => rfl
  | some p =>
    obtain ⟨j, b⟩ := p
    simp only
    cases hj : ops[j]? with
    | none => rfl
    | some p =>
      simp only
      cases hd : p.dst with
      | none => rfl
      | some t =>
        have ht : t ∈ looksAt ops o := by
          unfold looksAt
          refine List.mem_append_right _ ?_
          rw [hg]
          simp [hj, hd]
        simp only
        rw [h t ht]
theorem stepOp_same {X : Ctx} {cl : FuncId → List AV → Heap → COut} {rd : Nat → List AV → Heap → COut} {e : Mp AV} (hb : boxy o.op = false) (h : Agree ops o { F with e := e } F) :
    stepOp X cl rd ops o { F with e := e } = (match stepOp X cl rd ops o F with
      | .val v F' => .val v { F' with e := (({ F with e := e } : Fr).put o.dst v).e }
      | .pan v F' => .pan v { F' with e := e }
      | .fail => .fail) := by
  unfold stepOp
  rw [h.guardOk, h.wanted]
  split
  · rfl
  · split
    · simp only
      split
      · rw [ef_congr hb h.opd]
        cases efV X cl rd F o.dst o.op with
        | val v F' => simp only [setE]; congr 1; cases o.dst <;> rfl
        | pan v F' => rfl
        | fail => rfl
      · rw [rd_congr (G := { F with e := e }) (F := F) h.opd rfl rfl]
        cases rdV X F o.dst o.op with
        | none => rfl
        | some v => simp only; congr 1; cases o.dst <;> rfl
    · simp only; congr 1; cases o.dst <;> rfl
theorem stepOp_read {X : Ctx} {cl : FuncId → List AV → Heap → COut} {rd : Nat → List AV → Heap → COut} {v : AV} {F' : Fr} (hf : G.f = F.f) (he : isEffAt X F.f o = false) (h : Agree ops o G F) (h1 : stepOp X cl rd ops o F = .val v F')
    (hr : wantedA ops F o = true → rdV X G o.dst o.op = rdV X F o.dst o.op) : stepOp X cl rd ops o G = .val v (G.put o.dst v) ∧ F' = F.put o.dst v := by
  unfold stepOp at h1 ⊢
  rw [h.guardOk, h.wanted, hf]
  split at h1
  · cases h1
  · rename_i hg
    rw [if_neg hg]
    split at h1
    · rename_i hw
      rw [he] at h1 ⊢
      simp only [Bool.false_eq_true, if_false] at h1 ⊢
      rw [if_pos hw, hr hw]
      cases hv : rdV X F o.dst o.op with
      | none => rw [hv] at h1; cases h1
      | some u => rw [hv] at h1; cases h1; exact ⟨rfl, rfl⟩
    · rename_i hw
      rw [if_neg hw]
      cases h1
      exact ⟨rfl, rfl⟩
end
end Go.AM
namespace Go.AM
open Go
variable [Keep]
def wrB (ops : Array Oper) (t : Tmp) (i : Nat) : Bool := match ops[i]? with | some o => o.dst == some t | none => false
def efB (X : Ctx) (f : FuncId) (ops : Array Oper) (i : Nat) : Bool := match ops[i]? with | some o => isEffD X f o | none => false
def valOf (ts : List (Nat × Trace)) (i : Nat) : AV := match traceOf ts i with | some t => t.val | none => .junk
def aftOf (F0 : Fr) (ts : List (Nat × Trace)) (i : Nat) : Fr := match traceOf ts i with | some t => t.after | none => F0
def envAt (ops : Array Oper) (F0 : Fr) (ts : List (Nat × Trace)) (A : List Nat) (t : Tmp) : Option AV :=
  match (A.filter (wrB ops t)).getLast? with
  | none => F0.e.get t
  | some z => some (valOf ts z)
def memAt (X : Ctx) (ops : Array Oper) (F0 : Fr) (ts : List (Nat × Trace)) (A : List Nat) : Fr :=
  match (A.filter (efB X F0.f ops)).getLast? with
  | none => F0
  | some z => aftOf F0 ts z
structure At (X : Ctx) (ops : Array Oper) (F0 : Fr) (ts : List (Nat × Trace)) (A : List Nat) (F : Fr) : Prop where
  env : ∀ t, F.e.get t = envAt ops F0 ts A t
  mem : F = { memAt X ops F0 ts A with e := F.e }
section
variable {X : Ctx} {cl : FuncId → List AV → Heap → COut} {rd : Nat → List AV → Heap → COut} {ops : Array Oper} {F0 F : Fr} {ts : List (Nat × Trace)}
theorem At.start : At X ops F0 ts [] F0 := ⟨fun _ => rfl, rfl⟩
theorem envAt_snoc {A : List Nat} {i : Nat} {o : Oper} (ho : ops[i]? = some o) (t : Tmp) : envAt ops F0 ts (A ++ [i]) t = if o.dst = some t then some (valOf ts i) else envAt ops F0 ts A t := by
  unfold envAt
  rw [List.filter_append]
  have hw : wrB ops t i = (o.dst == some t) := by simp [wrB, ho]
  by_cases h : o.dst = some t
  · have : wrB ops t i = true := by rw [hw]; simpa using h
    simp [List.filter_cons, this, h]
  · have : wrB ops t i = false := by rw [hw]; simpa using h
    simp [List.filter_cons, this, h]
theorem memAt_snoc {A : List Nat} {i : Nat} : memAt X ops F0 ts (A ++ [i]) = if efB X F0.f ops i then aftOf F0 ts i else memAt X ops F0 ts A := by
  unfold memAt
  rw [List.filter_append]
  cases h : efB X F0.f ops i <;> simp [List.filter_cons, h]
theorem put_get (F : Fr) (d : Option Tmp) (v : AV) (t : Tmp) : (F.put d v).e.get t = if d = some t then some v else F.e.get t := by
  cases d with
  | none => simp [Fr.put]
  | some s => simp only [Fr.put, Mp.get_set]; by_cases h : s = t <;> simp [h]
theorem write_keeps {p : AV} {vs : List AV} {F' : Fr} (h : F.write p vs = some F') : F'.e = F.e ∧ F'.f = F.f := by
  unfold Fr.write at h
  (repeat' split at h) <;> first | (cases h; done) | (cases h; exact ⟨rfl, rfl⟩)
theorem append_keeps {P : Program} {t : TypeId} {x v : AV} {new : List AV} {F' : Fr} (h : appendV P F t x new = some (v, F')) : F'.e = F.e ∧ F'.f = F.f := by
  unfold appendV at h
  (repeat' split at h) <;> first | (cases h; done) | (cases h; exact ⟨rfl, rfl⟩)
theorem out_keeps {r : COut} {v : AV} {F' : Fr} (h : outOf F r = .val v F') : F'.e = F.e ∧ F'.f = F.f := by
  cases r <;> simp [outOf] at h
  obtain ⟨_, rfl⟩ := h
  exact ⟨rfl, rfl⟩
theorem ef_keeps {d : Option Tmp} {op : Op} {v : AV} {F' : Fr} (h : efV X cl rd F d op = .val v F') : F'.e = F.e ∧ F'.f = F.f := by
  have box : ∀ {w : AV}, okO (newBox X F d w) = .val v F' → F'.e = F.e ∧ F'.f = F.f := fun h => by
    have h := okO_val h
    unfold newBox at h
    (repeat' split at h) <;> first | (cases h; done) | (cases h; exact ⟨rfl, rfl⟩)
  cases op <;> simp only [efV] at h <;> first | (cases h; done) | skip
  case alloc t => unfold Fr.allocE at h; split at h; exact box h; cases h
  case box t x => unfold Fr.boxE at h; split at h; exact box h; cases h
  case store t p x =>
    unfold Fr.storeE at h
    split at h
    · split at h
      · split at h
        · split at h
          · rename_i hw; cases h; exact write_keeps hw
          · cases h
        · cases h
      · cases h
    · cases h
  case buildSlice t n ps => unfold Fr.rowE at h; (repeat' split at h) <;> first | (cases h; done) | (cases h; exact ⟨rfl, rfl⟩)
  case makeMap t r => unfold Fr.mapE at h; (repeat' split at h) <;> first | (cases h; done) | (cases h; exact ⟨rfl, rfl⟩)
  case makeSlice t l c => unfold Fr.makeSliceE at h; (repeat' split at h) <;> first | (cases h; done) | (cases h; exact ⟨rfl, rfl⟩)
  case mapUpdate t m k x => unfold Fr.mapUpdateE at h; (repeat' split at h) <;> first | (cases h; done) | (cases h; exact ⟨rfl, rfl⟩)
  case range t x => unfold Fr.rangeE at h; (repeat' split at h) <;> first | (cases h; done) | (cases h; exact ⟨rfl, rfl⟩)
  case next x st => unfold Fr.nextE at h; (repeat' split at h) <;> first | (cases h; done) | (cases h; exact ⟨rfl, rfl⟩)
  case defer c => unfold Fr.deferE at h; (repeat' split at h) <;> first | (cases h; done) | (cases h; exact ⟨rfl, rfl⟩)
  case panic x => unfold Fr.panicE at h; (repeat' split at h) <;> first | (cases h; done) | (cases h; exact ⟨rfl, rfl⟩)
  case call c =>
    unfold Fr.callOp at h
    split at h
    · unfold Fr.callE at h
      split at h
      · exact out_keeps h
      · cases h
    · unfold Fr.invokeE at h
      split at h
      · split at h
        · exact out_keeps h
        · cases h
      · cases h
    · unfold Fr.builtinE at h
      split at h
      · unfold Fr.appendE at h
        (repeat' split at h) <;> first | (cases h; done) | exact append_keeps (okO_val h)
      · split at h
        · unfold Fr.panicE at h; (repeat' split at h) <;> first | (cases h; done) | (cases h; exact ⟨rfl, rfl⟩)
        · cases h
      · split at h
        · unfold Fr.recoverE at h; (repeat' split at h) <;> first | (cases h; done) | (cases h; exact ⟨rfl, rfl⟩)
        · cases h
      · cases h
theorem stepOp_shape {o : Oper} {v : AV} {F' : Fr} (h : stepOp X cl rd ops o F = .val v F') :
    (∀ t, F'.e.get t = if o.dst = some t then some v else F.e.get t) ∧ (isEffAt X F.f o = false → F' = { F with e := F'.e }) ∧ F'.f = F.f := by
  have put : ∀ u, (F.put o.dst u) = { F with e := (F.put o.dst u).e } := fun u => by cases o.dst <;> rfl
  unfold stepOp at h
  split at h
  · cases h
  · split at h
    · split at h
      · rename_i he
        split at h
        · rename_i v1 F1 e1
          cases h
          obtain ⟨k1, k2⟩ := ef_keeps e1
          refine ⟨fun t => by rw [put_get, k1], fun hn => absurd (he.symm.trans hn) (by simp), ?_⟩
          cases o.dst <;> exact k2
        · rename_i r hne
          rw [h] at hne
          exact absurd rfl (hne v F')
      · split at h
        · cases h
          exact ⟨fun t => put_get _ _ _ _, fun _ => put _, by cases o.dst <;> rfl⟩
        · cases h
    · cases h
      exact ⟨fun t => put_get _ _ _ _, fun _ => put _, by cases o.dst <;> rfl⟩
theorem stepD_shape {o : Oper} {v : AV} {F' : Fr} (h : stepD X cl rd ops o F = .val v F') :
    (∀ t, F'.e.get t = if o.dst = some t then some v else F.e.get t) ∧ (isEffD X F.f o = false → F' = { F with e := F'.e }) ∧ F'.f = F.f := by
  have put : ∀ u, (F.put o.dst u) = { F with e := (F.put o.dst u).e } := fun u => by cases o.dst <;> rfl
  unfold stepD at h
  split at h
  · split at h
    · cases h
      exact ⟨fun t => put_get _ _ _ _, fun _ => put _, by cases o.dst <;> rfl⟩
    · cases h
  · rename_i ha
    obtain ⟨h1, h2, h3⟩ := stepOp_shape h
    exact ⟨h1, fun hn => h2 (by
      unfold isEffD at hn
      have ha : isAlloc o = false := by simpa using ha
      rw [ha] at hn
      simpa using hn), h3⟩
end
end Go.AM
namespace Go.AM
open Go
variable [Keep]
structure StepAt (X : Ctx) (cl : FuncId → List AV → Heap → COut) (rd : Nat → List AV → Heap → COut) (ops : Array Oper) (F0 : Fr) (ts : List (Nat × Trace)) (A : List Nat) (i : Nat) (o : Oper) (FA FB : Fr) : Prop where
  op : ops[i]? = some o
  tr : traceOf ts i = some ⟨FA, valOf ts i, FB⟩
  st : stepD X cl rd ops o FA = .val (valOf ts i) FB
  at_ : At X ops F0 ts A FA
  fn : FA.f = F0.f
def StepsAt (X : Ctx) (cl : FuncId → List AV → Heap → COut) (rd : Nat → List AV → Heap → COut) (ops : Array Oper) (F0 : Fr) (ts : List (Nat × Trace)) (A0 L : List Nat) : Prop :=
  ∀ A i B, L = A ++ i :: B → ∃ o FA FB, StepAt X cl rd ops F0 ts (A0 ++ A) i o FA FB
section
variable {X : Ctx} {cl : FuncId → List AV → Heap → COut} {rd : Nat → List AV → Heap → COut} {ops : Array Oper} {F0 : Fr} {ts : List (Nat × Trace)}
theorem At.step {A0 : List Nat} {F F1 : Fr} {i : Nat} {o : Oper} {v : AV} (h : At X ops F0 ts A0 F) (hf : F.f = F0.f) (ho : ops[i]? = some o) (hs : stepD X cl rd ops o F = .val v F1) (ht : traceOf ts i = some ⟨F, v, F1⟩) :
    At X ops F0 ts (A0 ++ [i]) F1 ∧ F1.f = F0.f := by
  obtain ⟨k1, k2, k3⟩ := stepD_shape hs
  have hv : valOf ts i = v := by simp [valOf, ht]
  have ha : aftOf F0 ts i = F1 := by simp [aftOf, ht]
  refine ⟨⟨fun t => ?_, ?_⟩, k3.trans hf⟩
  · rw [k1, envAt_snoc ho, hv, h.env]
  · rw [memAt_snoc, ha]
    cases he : efB X F0.f ops i with
    | true => rfl
    | false =>
      have : isEffD X F.f o = false := by simp [efB, ho] at he; rw [hf]; exact he
      have e1 := k2 this
      rw [h.mem] at e1
      simp only [Bool.false_eq_true, if_false]
      exact e1
theorem traceOf_cons_ne {i j : Nat} {t : Trace} {ts : List (Nat × Trace)} (h : j ≠ i) : traceOf ((i, t) :: ts) j = traceOf ts j := by simp [traceOf, h]
theorem runD_norm : ∀ (L A0 : List Nat) (F F' : Fr) (ts1 : List (Nat × Trace)), L.Nodup → (∀ i ∈ L, traceOf ts i = traceOf ts1 i) → At X ops F0 ts A0 F → F.f = F0.f → runD X cl rd ops L F = .norm F' ts1 →
    At X ops F0 ts (A0 ++ L) F' ∧ StepsAt X cl rd ops F0 ts A0 L := by
  intro L
  induction L with
  | nil =>
    intro A0 F F' ts1 _ _ ha _ h
    simp only [runD] at h
    cases h
    exact ⟨by simpa using ha, fun A i B e => by simp at e⟩
  | cons i L ih =>
    intro A0 F F' ts1 hn ht ha hf h
    simp only [runD] at h
    split at h
    · cases h
    · rename_i o ho
      split at h
      · rename_i v F1 hs
        split at h
        · rename_i F'' ts2 hr
          cases h
          have hnd := List.nodup_cons.1 hn
          have hti : traceOf ts i = some ⟨F, v, F1⟩ := by rw [ht i (by simp)]; simp [traceOf]
          have htr : ∀ j ∈ L, traceOf ts j = traceOf ts2 j := fun j hj => by
            rw [ht j (by simp [hj])]
            exact traceOf_cons_ne fun e => hnd.1 (e ▸ hj)
          obtain ⟨a1, f1⟩ := ha.step hf ho hs hti
          obtain ⟨q1, q2⟩ := ih (A0 ++ [i]) F1 F' ts2 hnd.2 htr a1 f1 hr
          refine ⟨by simpa using q1, fun A j B e => ?_⟩
          cases A with
          | nil =>
            simp at e
            obtain ⟨rfl, rfl⟩ := e
            have hv : valOf ts i = v := by simp [valOf, hti]
            exact ⟨o, F, F1, ho, by rw [hv]; exact hti, by rw [hv]; exact hs, by simpa using ha, hf⟩
          | cons x A =>
            simp at e
            obtain ⟨rfl, rfl⟩ := e
            have := q2 A j B rfl
            simpa using this
        · cases h
        · cases h
      · cases h
      · cases h
theorem runD_pan : ∀ (L A0 : List Nat) (F F' : Fr) (i : Nat) (v : AV) (ts1 : List (Nat × Trace)), L.Nodup → (∀ j ∈ L, traceOf ts j = traceOf ts1 j) → At X ops F0 ts A0 F → F.f = F0.f → runD X cl rd ops L F = .pan i v F' ts1 →
    ∃ A B o FA, L = A ++ i :: B ∧ ops[i]? = some o ∧ stepD X cl rd ops o FA = .pan v F' ∧ At X ops F0 ts (A0 ++ A) FA ∧ FA.f = F0.f ∧ StepsAt X cl rd ops F0 ts A0 A ∧ ∀ j, (traceOf ts1 j).isSome = true → j ∈ A := by
  intro L
  induction L with
  | nil => intro A0 F F' i v ts1 _ _ _ _ h; simp only [runD] at h; cases h
  | cons k L ih =>
    intro A0 F F' i v ts1 hn ht ha hf h
    simp only [runD] at h
    split at h
    · cases h
    · rename_i o ho
      split at h
      · rename_i u F1 hs
        split at h
        · cases h
        · rename_i i' v' F'' ts2 hr
          cases h
          have hnd := List.nodup_cons.1 hn
          have hti : traceOf ts k = some ⟨F, u, F1⟩ := by rw [ht k (by simp)]; simp [traceOf]
          have htr : ∀ j ∈ L, traceOf ts j = traceOf ts2 j := fun j hj => by
            rw [ht j (by simp [hj])]
            exact traceOf_cons_ne fun e => hnd.1 (e ▸ hj)
          obtain ⟨a1, f1⟩ := ha.step hf ho hs hti
          obtain ⟨A, B, o', FA, q1, q2, q3, q4, q5, q6, q7⟩ := ih (A0 ++ [k]) F1 F' i v ts2 hnd.2 htr a1 f1 hr
          refine ⟨k :: A, B, o', FA, by rw [q1]; rfl, q2, q3, by simpa using q4, q5, fun A' j B' e => ?_, fun j hj => ?_⟩
          · cases A' with
            | nil =>
              simp at e
              obtain ⟨rfl, rfl⟩ := e
              have hv : valOf ts k = u := by simp [valOf, hti]
              exact ⟨o, F, F1, ho, by rw [hv]; exact hti, by rw [hv]; exact hs, by simpa using ha, hf⟩
            | cons x A' =>
              simp at e
              obtain ⟨rfl, e⟩ := e
              have := q6 A' j B' e
              simpa using this
          · by_cases e : j = k
            · subst e; simp
            · rw [traceOf_cons_ne e] at hj
              exact List.mem_cons_of_mem _ (q7 j hj)
        · cases h
      · rename_i v' F'' hs
        cases h
        exact ⟨[], L, o, F, rfl, ho, hs, by simpa using ha, hf, fun A j B e => by simp at e, fun j hj => by simp [traceOf] at hj⟩
      · cases h
end
end Go.AM
namespace Go.AM
open Go
variable [Keep]
def bitsStep (acc : Array Nat) (o : Oper) : Nat := o.after.foldl (fun s e => if Region.binds .any e then s ||| 2 ^ e.on ||| acc.getD e.on 0 else s) 0
theorem fold_bits (acc : Array Nat) (i : Nat) : ∀ (es : List Edge) (s : Nat), (es.foldl (fun s e => if Region.binds .any e then s ||| 2 ^ e.on ||| acc.getD e.on 0 else s) s).testBit i = true →
    s.testBit i = true ∨ ∃ e ∈ es, Region.binds .any e = true ∧ (e.on = i ∨ (acc.getD e.on 0).testBit i = true) := by
  intro es
  induction es with
  | nil => intro s h; exact .inl h
  | cons e es ih =>
    intro s h
    simp only [List.foldl_cons] at h
    rcases ih _ h with h | ⟨e', he', hb, h⟩
    · split at h
      · rename_i hb
        simp only [Nat.testBit_or, Bool.or_eq_true, Nat.testBit_two_pow, decide_eq_true_eq] at h
        rcases h with (h | h) | h
        · exact .inl h
        · exact .inr ⟨e, by simp, hb, .inl h⟩
        · exact .inr ⟨e, by simp, hb, .inr h⟩
      · exact .inl h
    · exact .inr ⟨e', by simp [he'], hb, h⟩
theorem fold_push : ∀ (l : List Oper) (acc : Array Nat), let r := l.foldl (fun acc o => acc.push (bitsStep acc o)) acc
    (∀ k, k < acc.size → r[k]? = acc[k]?) ∧ r.size = acc.size + l.length ∧
    ∀ k o, l[k]? = some o → ∃ acc' : Array Nat, acc'.size = acc.size + k ∧ (∀ m, m < acc'.size → r[m]? = acc'[m]?) ∧ r[acc.size + k]? = some (bitsStep acc' o) := by
  intro l
  induction l with
  | nil => intro acc r; exact ⟨fun _ _ => rfl, rfl, fun k o h => by simp at h⟩
  | cons x l ih =>
    intro acc r
    obtain ⟨h1, h2, h3⟩ := ih (acc.push (bitsStep acc x))
    refine ⟨fun k hk => ?_, ?_, fun k o h => ?_⟩
    · have := h1 k (by simp; omega)
      have e : r[k]? = _ := this
      rw [e, Array.getElem?_push, if_neg (by omega)]
    · have e : r.size = _ := h2
      rw [e]; simp; omega
    · cases k with
      | zero =>
        simp at h
        subst h
        refine ⟨acc, rfl, fun m hm => ?_, ?_⟩
        · have := h1 m (by simp; omega)
          have e : r[m]? = _ := this
          rw [e, Array.getElem?_push, if_neg (by omega)]
        · have := h1 acc.size (by simp)
          have e : r[acc.size]? = _ := this
          rw [Nat.add_zero, e]; simp
      | succ k =>
        obtain ⟨acc', q1, q2, q3⟩ := h3 k o (by simpa using h)
        refine ⟨acc', by rw [q1]; simp; omega, q2, ?_⟩
        have e : (acc.push (bitsStep acc x)).size + k = acc.size + (k + 1) := by simp; omega
        rw [e] at q3
        exact q3
theorem waits_edge {ops : Array Oper} {j i : Nat} (h : waits ops j i = true) : ∃ o, ops[j]? = some o ∧ ∃ e ∈ o.after.toList, Region.binds .any e = true ∧ (e.on = i ∨ (e.on < j ∧ waits ops e.on i = true)) := by
  unfold waits at h
  have hb : Region.before ops = ops.toList.foldl (fun acc o => acc.push (bitsStep acc o)) #[] := by
    unfold Region.before
    rw [← Array.foldl_toList]
    rfl
  obtain ⟨_, h2, h3⟩ := fold_push ops.toList #[]
  rw [← hb] at h2 h3
  cases ho : ops[j]? with
  | none =>
    exfalso
    have hj : ops.size ≤ j := by
      rcases Nat.lt_or_ge j ops.size with h' | h'
      · rw [Array.getElem?_eq_getElem h'] at ho; cases ho
      · exact h'
    have : (Region.before ops).getD j 0 = 0 := by
      rw [Array.getD_eq_getD_getElem?, Array.getElem?_eq_none (by rw [h2]; simp; omega)]
      rfl
    rw [this] at h
    simp at h
  | some o =>
    obtain ⟨acc', q1, q2, q3⟩ := h3 j o (by simpa using ho)
    simp only [List.size_toArray, List.length_nil, Nat.zero_add] at q1 q3
    have e1 : (Region.before ops).getD j 0 = bitsStep acc' o := by rw [Array.getD_eq_getD_getElem?, q3]; rfl
    rw [e1] at h
    unfold bitsStep at h
    rw [← Array.foldl_toList] at h
    rcases fold_bits acc' i _ _ h with h | ⟨e, he, hbd, h⟩
    · simp at h
    · refine ⟨o, rfl, e, he, hbd, ?_⟩
      rcases h with h | h
      · exact .inl h
      · have hlt : e.on < acc'.size := by
          rcases Nat.lt_or_ge e.on acc'.size with h' | h'
          · exact h'
          · rw [Array.getD_eq_getD_getElem?, Array.getElem?_eq_none h'] at h
            simp at h
        refine .inr ⟨by omega, ?_⟩
        unfold waits
        rw [Array.getD_eq_getD_getElem?, q2 e.on hlt, ← Array.getD_eq_getD_getElem?]
        exact h
def Closed (ops : Array Oper) (D : Nat → Bool) : Prop := ∀ j o, D j = true → ops[j]? = some o → ∀ e ∈ o.after.toList, Region.binds .any e = true → D e.on = true
def Ready (ops : Array Oper) (D : Nat → Bool) (i : Nat) : Prop := D i = false ∧ ∃ o, ops[i]? = some o ∧ ∀ e ∈ o.after.toList, Region.binds .any e = true → D e.on = true
theorem Closed.waits {ops : Array Oper} {D : Nat → Bool} (h : Closed ops D) : ∀ (n j i : Nat), j ≤ n → D j = true → waits ops j i = true → D i = true := by
  intro n
  induction n with
  | zero =>
    intro j i hj hd hw
    obtain ⟨o, ho, e, he, hb, h1⟩ := waits_edge hw
    rcases h1 with rfl | ⟨h1, _⟩
    · exact h j o hd ho e he hb
    · omega
  | succ n ih =>
    intro j i hj hd hw
    obtain ⟨o, ho, e, he, hb, h1⟩ := waits_edge hw
    rcases h1 with rfl | ⟨h1, h2⟩
    · exact h j o hd ho e he hb
    · exact ih e.on i (by omega) (h j o hd ho e he hb) h2
theorem Ready.waits {ops : Array Oper} {D : Nat → Bool} {i x : Nat} (hc : Closed ops D) (h : Ready ops D i) (hw : waits ops i x = true) : D x = true := by
  obtain ⟨o, ho, e, he, hb, h1⟩ := waits_edge hw
  obtain ⟨_, o', ho', hr⟩ := h
  rw [ho] at ho'
  cases ho'
  have := hr e he hb
  rcases h1 with rfl | ⟨_, h2⟩
  · exact this
  · exact hc.waits e.on e.on x (Nat.le_refl _) this h2
def addD (D : Nat → Bool) (i : Nat) : Nat → Bool := fun j => j == i || D j
theorem Closed.add {ops : Array Oper} {D : Nat → Bool} {i : Nat} (hc : Closed ops D) (h : Ready ops D i) : Closed ops (addD D i) := by
  intro j o hj ho e he hb
  simp only [addD, Bool.or_eq_true, beq_iff_eq] at hj ⊢
  rcases hj with rfl | hj
  · obtain ⟨_, o', ho', hr⟩ := h
    rw [ho] at ho'
    cases ho'
    exact .inr (hr e he hb)
  · exact .inr (hc j o hj ho e he hb)
end Go.AM
namespace Go.AM
open Go
variable [Keep]
section
variable {X : Ctx} {ops : Array Oper}
def allocAt (ops : Array Oper) (i : Nat) : Bool := match ops[i]? with | some o => isAlloc o | none => false
def restAt (ops : Array Oper) (i : Nat) : Bool := match ops[i]? with | some o => !isAlloc o | none => false
theorem canon_eq : canon ops = (List.range ops.size).filter (allocAt ops) ++ (List.range ops.size).filter (restAt ops) := rfl
theorem canon_mem {i : Nat} : i ∈ canon ops ↔ i < ops.size := by
  rw [canon_eq]
  simp only [List.mem_append, List.mem_filter, List.mem_range]
  constructor
  · rintro (h | h) <;> exact h.1
  · intro h
    unfold allocAt restAt
    rw [Array.getElem?_eq_getElem h]
    simp only
    cases isAlloc ops[i] <;> simp [h]
theorem canon_nodup : (canon ops).Nodup := by
  rw [canon_eq, List.nodup_append]
  refine ⟨List.nodup_range.filter _, List.nodup_range.filter _, fun x hx y hy e => ?_⟩
  subst e
  have h1 := (List.mem_filter.1 hx).2
  have h2 := (List.mem_filter.1 hy).2
  unfold allocAt at h1
  unfold restAt at h2
  cases ho : ops[x]? with
  | none => rw [ho] at h1; cases h1
  | some o => rw [ho] at h1 h2; simp only at h1 h2; rw [h1] at h2; cases h2
theorem canon_alloc {A B : List Nat} {i : Nat} (h : canon ops = A ++ i :: B) (hi : allocAt ops i = true) : ∀ z ∈ A, allocAt ops z = true := by
  rw [canon_eq] at h
  intro z hz
  generalize e1 : (List.range ops.size).filter (allocAt ops) = p at h
  generalize e2 : (List.range ops.size).filter (restAt ops) = q at h
  rcases List.append_eq_append_iff.1 h with ⟨c, h1, h2⟩ | ⟨c, h1, h2⟩
  ·
    exfalso
    have : i ∈ q := by rw [h2]; simp
    rw [← e2] at this
    have h3 := (List.mem_filter.1 this).2
    unfold restAt at h3
    unfold allocAt at hi
    cases ho : ops[i]? with
    | none => rw [ho] at hi; cases hi
    | some o => rw [ho] at hi h3; simp only at hi h3; rw [hi] at h3; cases h3
  · have : z ∈ p := by rw [h1]; simp [hz]
    rw [← e1] at this
    exact (List.mem_filter.1 this).2
theorem loose_mem (w : Nat → Nat → Bool) : ∀ (A : List Nat) (i : Nat) (B : List Nat) (j : Nat), j ∈ B → w j i = false → (i, j) ∈ loosePairs w (A ++ i :: B) := by
  intro A
  induction A with
  | nil =>
    intro i B j hj hw
    simp only [List.nil_append, loosePairs]
    refine List.mem_append_left _ (List.mem_map.2 ⟨j, List.mem_filter.2 ⟨hj, by simp [hw]⟩, rfl⟩)
  | cons a A ih =>
    intro i B j hj hw
    simp only [List.cons_append, loosePairs]
    exact List.mem_append_right _ (ih i B j hj hw)
theorem split_two {l : List Nat} {x y : Nat} (hx : x ∈ l) (hy : y ∈ l) (hne : x ≠ y) : (∃ A B, l = A ++ x :: B ∧ y ∈ B) ∨ (∃ A B, l = A ++ y :: B ∧ x ∈ B) := by
  obtain ⟨A, B, e⟩ := List.append_of_mem hx
  rw [e] at hy
  rcases List.mem_append.1 hy with h | h
  · obtain ⟨C, D, e'⟩ := List.append_of_mem h
    refine .inr ⟨C, D ++ x :: B, by rw [e, e']; simp, by simp⟩
  · rcases List.mem_cons.1 h with h | h
    · exact absurd h.symm hne
    · exact .inl ⟨A, B, e, h⟩
theorem drawOk_pair {f : FuncId} (h : drawOk X f ops = true) {A B : List Nat} {i j : Nat} (e : canon ops = A ++ i :: B) (hj : j ∈ B) (hw : waits ops j i = false) :
    ∃ x y, ops[i]? = some x ∧ ops[j]? = some y ∧ apartT ops x y = true ∧ (isEffD X f x = true → isEffD X f y = true → False) := by
  unfold drawOk at h
  simp only [Bool.and_eq_true] at h
  have := List.all_eq_true.1 h.2 (i, j) (by rw [e]; exact loose_mem _ A i B j hj hw)
  unfold pairOk at this
  simp only at this
  split at this
  · rename_i x y hx hy
    simp only [Bool.and_eq_true, Bool.not_eq_true'] at this
    exact ⟨x, y, hx, hy, this.1, fun h1 h2 => by rw [h1, h2] at this; simp at this⟩
  · cases this
theorem drawOk_shape {f : FuncId} (h : drawOk X f ops = true) {i : Nat} {o : Oper} (ho : ops[i]? = some o) :
    (∀ e ∈ o.after.toList, Region.binds .any e = true → e.on < i) ∧ (isAlloc o = true → o.guard = none ∧ o.after = #[] ∧ ∃ d, o.dst = some d ∧ (X.hts f).contains d = false) ∧ (isAlloc o = false → boxy o.op = false) ∧ (∀ c, o.op ≠ .defer c) := by
  unfold drawOk at h
  simp only [Bool.and_eq_true] at h
  have hi : i < ops.size := by
    rcases Nat.lt_or_ge i ops.size with h' | h'
    · exact h'
    · rw [Array.getElem?_eq_none h'] at ho; cases ho
  have hs := h.1
  unfold shapeOk at hs
  have := List.all_eq_true.1 hs i (List.mem_range.2 hi)
  simp only [ho, Bool.and_eq_true] at this
  obtain ⟨h1, h2⟩ := this
  refine ⟨fun e he hb => ?_, fun ha => ?_, fun ha => ?_, fun c e => ?_⟩
  · rw [← Array.all_toList] at h1
    have := List.all_eq_true.1 h1 e he
    simp only [hb, Bool.not_true, Bool.or_false, decide_eq_true_eq] at this
    exact this
  · unfold isAlloc at ha
    split at ha
    · rename_i t e
      rw [e] at h2
      simp only [Bool.and_eq_true] at h2
      obtain ⟨⟨g1, g2⟩, g3⟩ := h2
      refine ⟨by simpa using g1, by simpa using g2, ?_⟩
      cases hd : o.dst with
      | none => rw [hd] at g3; cases g3
      | some d => rw [hd] at g3; exact ⟨d, rfl, by simpa using g3⟩
    · cases ha
  · unfold isAlloc at ha
    unfold boxy
    split at ha
    · cases ha
    · rename_i hne
      split
      · rename_i t e; exact absurd e (hne t)
      · rename_i t x e; rw [e] at h2; cases h2
      · rfl
  · rw [e] at h2; cases h2
theorem apart_spec {x y : Oper} (h : apartT ops x y = true) : (∀ d, x.dst = some d → d ∉ looksAt ops y) ∧ (∀ d, x.dst = some d → y.dst ≠ some d) ∧ (∀ d, y.dst = some d → d ∉ looksAt ops x) := by
  unfold apartT at h
  simp only [Bool.and_eq_true] at h
  refine ⟨fun d hd => ?_, fun d hd => ?_, fun d hd => ?_⟩
  · have := h.1; rw [hd] at this; simp at this; exact this.1
  · have := h.1; rw [hd] at this; simp at this; exact this.2
  · have := h.2; rw [hd] at this; simp at this; exact this
theorem alloc_one {f : FuncId} (h : drawOk X f ops = true) {i j : Nat} {x y : Oper} (hx : ops[i]? = some x) (hy : ops[j]? = some y) (ax : isAlloc x = true) (ay : isAlloc y = true) {s : Tmp} (sx : x.dst = some s) (sy : y.dst = some s) : i = j := by
  have hi : i ∈ canon ops := canon_mem.2 (by
    rcases Nat.lt_or_ge i ops.size with h' | h'
    · exact h'
    · rw [Array.getElem?_eq_none h'] at hx; cases hx)
  have hj : j ∈ canon ops := canon_mem.2 (by
    rcases Nat.lt_or_ge j ops.size with h' | h'
    · exact h'
    · rw [Array.getElem?_eq_none h'] at hy; cases hy)
  have hw : ∀ {a b : Nat} {z : Oper}, ops[a]? = some z → isAlloc z = true → waits ops a b = false := fun {a b z} hz az => by
    cases hw : waits ops a b with
    | false => rfl
    | true =>
      obtain ⟨o, ho, e, he, _⟩ := waits_edge hw
      rw [hz] at ho
      cases ho
      obtain ⟨_, h2, _⟩ := (drawOk_shape h hz).2.1 az
      rw [h2] at he
      simp at he
  rcases Nat.decEq i j with hne | e
  · exfalso
    rcases split_two hi hj hne with ⟨A, B, e, hm⟩ | ⟨A, B, e, hm⟩
    · obtain ⟨x', y', hx', hy', ha, _⟩ := drawOk_pair h e hm (hw hy ay)
      rw [hx] at hx'; rw [hy] at hy'; cases hx'; cases hy'
      exact (apart_spec ha).2.1 s sx sy
    · obtain ⟨x', y', hx', hy', ha, _⟩ := drawOk_pair h e hm (hw hx ax)
      rw [hy] at hx'; rw [hx] at hy'; cases hx'; cases hy'
      exact (apart_spec ha).2.1 s sy sx
  · exact e
theorem filter_split {D p : Nat → Bool} {A B : List Nat} {i : Nat} (hi : D i = false) (hA : ∀ z ∈ A, p z = true → D z = true) (hB : ∀ z ∈ B, p z = true → D z = false) : ((A ++ i :: B).filter D).filter p = A.filter p := by
  rw [List.filter_append, List.filter_cons, hi]
  simp only [Bool.false_eq_true, if_false, List.filter_append]
  have h1 : (A.filter D).filter p = A.filter p := by
    rw [List.filter_filter]
    apply List.filter_congr
    intro z hz
    cases hp : p z with
    | false => simp
    | true => simp [hA z hz hp]
  have h2 : (B.filter D).filter p = [] := by
    rw [List.filter_filter, List.filter_eq_nil_iff]
    intro z hz
    cases hp : p z with
    | false => simp
    | true => simp [hB z hz hp]
  rw [h1, h2, List.append_nil]
theorem filter_add {D : Nat → Bool} {A B : List Nat} {i : Nat} (hn : (A ++ i :: B).Nodup) (hi : D i = false) : (A ++ i :: B).filter (addD D i) = A.filter D ++ i :: B.filter D := by
  rw [List.filter_append, List.filter_cons]
  have hii : addD D i i = true := by simp [addD]
  rw [hii, if_pos rfl]
  have hne : ∀ z, z ∈ A ∨ z ∈ B → z ≠ i := by
    rw [List.nodup_append] at hn
    obtain ⟨_, h2, h3⟩ := hn
    rintro z (hz | hz) rfl
    · exact h3 z hz z (by simp) rfl
    · exact (List.nodup_cons.1 h2).1 hz
  have hc : ∀ l : List Nat, (∀ z ∈ l, z ≠ i) → l.filter (addD D i) = l.filter D := fun l hl => by
    apply List.filter_congr
    intro z hz
    simp [addD, hl z hz]
  rw [hc A fun z hz => hne z (.inl hz), hc B fun z hz => hne z (.inr hz)]
theorem filter_plain {D : Nat → Bool} {A B : List Nat} {i : Nat} (hi : D i = false) : (A ++ i :: B).filter D = A.filter D ++ B.filter D := by
  rw [List.filter_append, List.filter_cons, hi]; rfl
theorem first_with (p : Nat → Bool) : ∀ (l : List Nat), (∃ x ∈ l, p x = true) → ∃ A x B, l = A ++ x :: B ∧ p x = true ∧ ∀ z ∈ A, p z = false := by
  intro l
  induction l with
  | nil => rintro ⟨x, hx, _⟩; simp at hx
  | cons a l ih =>
    intro h
    cases ha : p a with
    | true => exact ⟨[], a, l, rfl, ha, by simp⟩
    | false =>
      obtain ⟨x, hx, hp⟩ := h
      have hx : x ∈ l := by
        rcases List.mem_cons.1 hx with rfl | hx
        · rw [ha] at hp; cases hp
        · exact hx
      obtain ⟨A, y, B, e, h1, h2⟩ := ih ⟨x, hx, hp⟩
      refine ⟨a :: A, y, B, by rw [e]; rfl, h1, fun z hz => ?_⟩
      rcases List.mem_cons.1 hz with rfl | hz
      · exact ha
      · exact h2 z hz
theorem last_with (p : Nat → Bool) : ∀ (l : List Nat), (∃ x ∈ l, p x = true) → ∃ A x B, l = A ++ x :: B ∧ p x = true ∧ ∀ z ∈ B, p z = false := by
  intro l
  induction l with
  | nil => rintro ⟨x, hx, _⟩; simp at hx
  | cons a l ih =>
    intro h
    by_cases hl : ∃ x ∈ l, p x = true
    · obtain ⟨A, y, B, e, h1, h2⟩ := ih hl
      exact ⟨a :: A, y, B, by rw [e]; rfl, h1, h2⟩
    · obtain ⟨x, hx, hp⟩ := h
      rcases List.mem_cons.1 hx with rfl | hx
      · refine ⟨[], x, l, rfl, hp, fun z hz => ?_⟩
        cases h : p z with
        | false => rfl
        | true => exact absurd ⟨z, hz, h⟩ hl
      · exact absurd ⟨x, hx, hp⟩ hl
end
end Go.AM
namespace Go.AM
open Go
variable [Keep]
section
variable {X : Ctx} {P : Program} {w w' : World} {C : Cfg} {lam : Nat → Option Nat} {ms : List Nat} {F : Fr} {b : Frame} {a : Act} {cs : List Frame}
theorem St.withE (s : St C lam ms F b a w cs) {e : Mp AV} (h : ∀ t, ({ F with e := e } : Fr).tmp t = .junk ∨ ({ F with e := e } : Fr).tmp t = F.tmp t) : St C lam ms { F with e := e } b a w cs :=
  { wr := s.wr, box := s.box, inj := s.inj, mark := s.mark, nodup := s.nodup, live := s.live, osig := s.osig, df := s.df, up := s.up, fn := s.fn, rnd := s.rnd,
    env := fun t => by
      rcases h t with h | h
      · rw [h]; trivial
      · rw [h]; exact s.env t }
def lamDrop (lam : Nat → Option Nat) (t : Nat) : Nat → Option Nat := fun s => if s = t then none else lam s
theorem own_drop {t β : Nat} (h : Own (lamDrop lam t) ms β) : Own lam ms β := by
  rcases h with ⟨s, hs⟩ | h
  · unfold lamDrop at hs
    split at hs
    · cases hs
    · exact .inl ⟨s, hs⟩
  · exact .inr h
theorem St.prepBox (s : St C lam ms F b a w cs) {t : Nat} {cells : List AV} : St C (lamDrop lam t) ms { F with lm := F.lm.set t (nextGen F.lm t, cells) } b a w cs := by
  refine { wr := s.wr, env := fun t' => ?_, box := fun t' β ht => ?_, inj := fun t1 t2 β h1 h2 => ?_, mark := s.mark, nodup := s.nodup, live := fun β ho => s.live β (own_drop ho), osig := fun β x v ho => s.osig β x v (own_drop ho), df := s.df, up := s.up, fn := s.fn, rnd := s.rnd }
  · have := s.env t'
    show SR C (lamDrop lam t) (F.lm.set t (nextGen F.lm t, cells)) (F.tmp t') _
    revert this
    cases F.tmp t' <;> intro this <;> first | exact this | skip
    rename_i s' g1 off
    obtain ⟨g', cs', β', k1, k2, k3, k4⟩ := this
    by_cases e : t = s'
    · subst e
      have hn : nextGen F.lm t = g' + 1 := by simp [nextGen, k1]
      refine ⟨nextGen F.lm t, cells, β', by simp, by omega, k3, fun e' => ?_⟩
      omega
    · refine ⟨g', cs', β', by simp [e, k1], k2, k3, fun e' => ?_⟩
      unfold lamDrop
      rw [if_neg (fun h => e h.symm)]
      exact k4 e'
  · unfold lamDrop at ht
    split at ht
    · cases ht
    · rename_i e
      obtain ⟨g1, cells1, c1, k1, k2⟩ := s.box t' β ht
      exact ⟨g1, cells1, c1, by show (F.lm.set t _).get t' = _; rw [Mp.get_set, if_neg (fun h => e h.symm)]; exact k1, k2⟩
  · unfold lamDrop at h1 h2
    split at h1
    · cases h1
    · split at h2
      · cases h2
      · exact s.inj t1 t2 β h1 h2
theorem Ext.drop {h : Heap} {t : Nat} : Ext C h (Own lam ms) w C h (Own (lamDrop lam t) ms) w :=
  { Ext.refl C h (Own lam ms) w with own := fun _ _ o => .inr (own_drop o) }
theorem prepAll_ok : ∀ (l : List Oper) (lam : Nat → Option Nat) (F F0 : Fr), St C lam ms F b a w cs → prepAll X l F = some F0 →
    ∃ lam0, St C lam0 ms F0 b a w cs ∧ Ext C F.hp (Own lam ms) w C F0.hp (Own lam0 ms) w ∧ (∀ s, lam s = none → lam0 s = none) ∧ (∀ o ∈ l, isAlloc o = true → ∀ s, o.dst = some s → lam0 s = none) ∧ F0.e = F.e ∧ F0.f = F.f := by
  intro l
  induction l with
  | nil =>
    intro lam F F0 s h
    simp only [prepAll, Option.some.injEq] at h
    subst h
    exact ⟨lam, s, .refl _ _ _ _, fun _ h => h, by simp, rfl, rfl⟩
  | cons o l ih =>
    intro lam F F0 s h
    simp only [prepAll] at h
    split at h
    · rename_i t d ho hd
      split at h
      · rename_i z hz
        split at h
        · cases h
        · obtain ⟨lam0, h1, h2, h3, h4, h5, h6⟩ := ih _ _ _ (s.prepBox (t := d) (cells := z.cells)) h
          refine ⟨lam0, h1, Ext.drop.trans h2, fun s hs => h3 s (by unfold lamDrop; split <;> first | rfl | exact hs), fun o' ho' ha s hs => ?_, h5, h6⟩
          rcases List.mem_cons.1 ho' with rfl | ho'
          · rw [hd] at hs
            cases hs
            exact h3 d (by simp [lamDrop])
          · exact h4 o' ho' ha s hs
      · cases h
    · cases h
    · rename_i hne1 hne2
      obtain ⟨lam0, h1, h2, h3, h4, h5, h6⟩ := ih _ _ _ s h
      refine ⟨lam0, h1, h2, h3, fun o' ho' ha s hs => ?_, h5, h6⟩
      rcases List.mem_cons.1 ho' with rfl | ho'
      · unfold isAlloc at ha
        split at ha
        · rename_i t e; exact absurd hs (hne1 t s e)
        · cases ha
      · exact h4 o' ho' ha s hs
theorem prepAll_other : ∀ (l : List Oper) (F F0 : Fr) (s : Tmp), prepAll X l F = some F0 → (¬ ∃ o ∈ l, ∃ t, o.op = .alloc t ∧ o.dst = some s) → F0.lm.get s = F.lm.get s := by
  intro l
  induction l with
  | nil => intro F F0 s h _; simp only [prepAll, Option.some.injEq] at h; rw [h]
  | cons o l ih =>
    intro F F0 s h hn
    have hn' : ¬ ∃ o ∈ l, ∃ t, o.op = .alloc t ∧ o.dst = some s := fun ⟨o', h1, h2⟩ => hn ⟨o', by simp [h1], h2⟩
    simp only [prepAll] at h
    split at h
    · rename_i t d ho hd
      split at h
      · split at h
        · cases h
        · have := ih _ _ s h hn'
          rw [this]
          show (F.lm.set d _).get s = _
          rw [Mp.get_set, if_neg]
          intro e
          subst e
          exact hn ⟨o, by simp, t, ho, hd⟩
      · cases h
    · cases h
    · exact ih _ _ s h hn'
theorem prepAll_get : ∀ (l : List Oper) (F F0 : Fr) (s : Tmp) (t : TypeId), prepAll X l F = some F0 → (∀ o ∈ l, ∀ t', o.op = .alloc t' → o.dst = some s → t' = t) → (∃ o ∈ l, o.op = .alloc t ∧ o.dst = some s) →
    ∃ z g, zeroT X.P t = some z ∧ isTuple z = false ∧ F0.lm.get s = some (g, z.cells) := by
  intro l
  induction l with
  | nil => rintro F F0 s t _ _ ⟨o, ho, _⟩; simp at ho
  | cons o l ih =>
    intro F F0 s t h hu hex
    have hu' : ∀ o ∈ l, ∀ t', o.op = .alloc t' → o.dst = some s → t' = t := fun o' ho' => hu o' (by simp [ho'])
    by_cases hl : ∃ o ∈ l, ∃ t, o.op = .alloc t ∧ o.dst = some s
    · obtain ⟨o', h1, t', h2, h3⟩ := hl
      have := hu' o' h1 t' h2 h3
      subst this
      simp only [prepAll] at h
      split at h
      · split at h
        · split at h
          · cases h
          · exact ih _ _ s _ h hu' ⟨o', h1, h2, h3⟩
        · cases h
      · cases h
      · exact ih _ _ s _ h hu' ⟨o', h1, h2, h3⟩
    · obtain ⟨o', h1, h2, h3⟩ := hex
      rcases List.mem_cons.1 h1 with rfl | h1
      · simp only [prepAll, h2, h3] at h
        split at h
        · rename_i z hz
          split at h
          · cases h
          · rename_i ht
            refine ⟨z, nextGen F.lm s, hz, by simpa using ht, ?_⟩
            rw [prepAll_other l _ _ s h hl]
            simp
        · cases h
      · exact absurd ⟨o', h1, t, h2, h3⟩ hl
theorem St.layBox (s : St C lam ms F b a w cs) {t g : Nat} {cells : List AV} {c : Array Value} {T : TypeId} (hl : lam t = none) (hg : F.lm.get t = some (g, cells)) (hr : VRs C cells c) (h1 : ∀ x ∈ cells, x.one = true) :
    let w' : World := { w with heap := w.heap.push (.cells c T) }
    let lam' := lamSet lam t w.heap.size
    SR C lam' F.lm (.lptr t g 0) (.pointer (some ⟨w.heap.size, 0, none⟩)) ∧ St C lam' ms F b a w' cs ∧ Ext C F.hp (Own lam ms) w C F.hp (Own lam' ms) w' := by
  intro w' lam'
  have hh : w'.heap = w.heap.push (.cells c T) := rfl
  have hown : ∀ β, Own lam' ms β → Own lam ms β ∨ β = w.heap.size := by
    rintro β (⟨t', ht⟩ | h)
    · simp only [lam', lamSet] at ht
      split at ht
      · cases ht; exact .inr rfl
      · exact .inl (.inl ⟨t', ht⟩)
    · exact .inl (.inr h)
  refine ⟨⟨g, cells, w.heap.size, hg, Nat.le_refl _, rfl, fun _ => by simp [lam', lamSet]⟩, ?_, ?_⟩
  · refine { wr := ⟨fun x v h => ?_, fun id blk h => ?_, s.wr.inj, s.wr.apart, s.wr.fresh, s.wr.base.on (fun _ _ e => e) (fun x v e => heap_push hh (s.wr.sig_lt e))⟩, env := fun t' => ?_, box := fun t' β ht => ?_, inj := fun t1 t2 β h1 h2 => ?_,
             mark := fun m hm => (heap_push hh (s.own_lt (.inr hm))).trans (s.mark m hm), nodup := s.nodup, live := fun β ho l => ?_, osig := fun β x v ho h e => ?_, df := s.df, up := s.up, fn := s.fn, rnd := s.rnd }
    · have hb := s.wr.sig_lt h
      have := s.wr.sig x v h
      unfold World.cell? at this ⊢
      rw [heap_push hh hb]
      exact this
    · obtain ⟨L, k1, k2⟩ := s.wr.blk id blk h
      exact ⟨L, k1, k2.same (.refl C) (heap_push hh k2.lt)⟩
    · have := s.env t'
      revert this
      cases F.tmp t' <;> intro this <;> first | exact this | skip
      rename_i s' g1 off
      obtain ⟨g', cs', β', k1, k2, k3, k4⟩ := this
      refine ⟨g', cs', β', k1, k2, k3, fun e' => ?_⟩
      have k5 := k4 e'
      simp only [lam', lamSet]
      split
      · rename_i e
        subst e
        rw [hl] at k5
        cases k5
      · exact k5
    · simp only [lam', lamSet] at ht
      split at ht
      · rename_i e
        subst e
        cases ht
        exact ⟨g, cells, c, hg, ⟨T, 0, 0, by simp [w'], .inl (Nat.le_refl _)⟩, hr, h1⟩
      · obtain ⟨g, cells', c', k1, k2, k3, k4⟩ := s.box t' β ht
        exact ⟨g, cells', c', k1, k2.same (heap_push hh k2.lt), k3, k4⟩
    · simp only [lam', lamSet] at h1 h2
      split at h1 <;> split at h2
      · rename_i e1 e2; rw [e1, e2]
      · cases h1
        have := s.own_lt (.inl ⟨t2, h2⟩)
        omega
      · cases h2
        have := s.own_lt (.inl ⟨t1, h1⟩)
        omega
      · exact s.inj t1 t2 β h1 h2
    · rcases hown β ho with ho | rfl
      · exact s.live β ho l
      · have := s.wr.live_lt l
        omega
    · rcases hown β ho with ho | rfl
      · exact s.osig β x v ho h e
      · have := s.wr.sig_lt h
        omega
  · exact { le := .refl C, os := rfl, tape := rfl, output := rfl, size := by simp [w'], same := fun β h _ _ => heap_push hh h, live := fun β _ l => .inl l, own := fun β hb o => by
              rcases hown β o with o | rfl
              · exact .inr o
              · omega
            sig := fun _ _ _ h => .inl h, next := Nat.le_refl _ }
theorem write_lm {cl : FuncId → List AV → Heap → COut} (s : St C lam ms F b a w cs) {p : Operand} {pv : AV} {vs : List AV} {F' : Fr} {t : Tmp} (hp : F.opd p = some pv) (h : F.write pv vs = some F') (hl : lam t = none) : F'.lm.get t = F.lm.get t := by
  unfold Fr.write at h
  split at h
  · rename_i s' g off
    split at h
    · rename_i g' cells hg
      split at h
      · rename_i hh
        cases h
        obtain ⟨rfl, _⟩ := hh
        show (F.lm.set s' _).get t = _
        rw [Mp.get_set, if_neg]
        intro e
        subst e
        have hs := s.opd hp
        obtain ⟨g1, cs1, β, e1, _, _, e2⟩ := hs
        rw [hg] at e1
        cases e1
        have := e2 rfl
        rw [hl] at this
        cases this
      · cases h
    · cases h
  · split at h
    · split at h
      · cases h; rfl
      · cases h
    · cases h
  · split at h
    · split at h
      · split at h
        · split at h
          · cases h; rfl
          · cases h
        · cases h
      · cases h
    · cases h
  · cases h
theorem append_lm {t : TypeId} {x v : AV} {new : List AV} {F' : Fr} (h : appendV P F t x new = some (v, F')) : F'.lm = F.lm := by
  unfold appendV at h
  (repeat' split at h) <;> first | (cases h; done) | (cases h; rfl)
theorem out_lm {r : COut} {v : AV} {F' : Fr} (h : outOf F r = .val v F') : F'.lm = F.lm := by
  cases r <;> simp [outOf] at h
  obtain ⟨_, rfl⟩ := h
  rfl
theorem ef_lm {cl : FuncId → List AV → Heap → COut} {rd : Nat → List AV → Heap → COut} (s : St C lam ms F b a w cs) {d : Option Tmp} {op : Op} {v : AV} {F' : Fr} {t : Tmp} (hb : boxy op = false) (h : efV X cl rd F d op = .val v F') (hl : lam t = none) : F'.lm.get t = F.lm.get t := by
  have same : F'.lm = F.lm → F'.lm.get t = F.lm.get t := fun h => by rw [h]
  cases op <;> simp only [efV] at h <;> first | (cases h; done) | (simp [boxy] at hb; done) | skip
  case store ty p x =>
    unfold Fr.storeE at h
    split at h
    · rename_i pv xv hp hx
      split at h
      · split at h
        · split at h
          · rename_i hw; cases h; exact write_lm (cl := cl) s hp hw hl
          · cases h
        · cases h
      · cases h
    · cases h
  case buildSlice ty n ps => refine same ?_; unfold Fr.rowE at h; (repeat' split at h) <;> first | (cases h; done) | (cases h; rfl)
  case makeMap ty r => refine same ?_; unfold Fr.mapE at h; (repeat' split at h) <;> first | (cases h; done) | (cases h; rfl)
  case makeSlice ty l c => refine same ?_; unfold Fr.makeSliceE at h; (repeat' split at h) <;> first | (cases h; done) | (cases h; rfl)
  case mapUpdate ty m k x => refine same ?_; unfold Fr.mapUpdateE at h; (repeat' split at h) <;> first | (cases h; done) | (cases h; rfl)
  case range ty x => refine same ?_; unfold Fr.rangeE at h; (repeat' split at h) <;> first | (cases h; done) | (cases h; rfl)
  case next x st => refine same ?_; unfold Fr.nextE at h; (repeat' split at h) <;> first | (cases h; done) | (cases h; rfl)
  case defer c => refine same ?_; unfold Fr.deferE at h; (repeat' split at h) <;> first | (cases h; done) | (cases h; rfl)
  case panic x => refine same ?_; unfold Fr.panicE at h; (repeat' split at h) <;> first | (cases h; done) | (cases h; rfl)
  case call c =>
    refine same ?_
    unfold Fr.callOp at h
    split at h
    · unfold Fr.callE at h
      split at h
      · exact out_lm h
      · cases h
    · unfold Fr.invokeE at h
      split at h
      · split at h
        · exact out_lm h
        · cases h
      · cases h
    · unfold Fr.builtinE at h
      split at h
      · unfold Fr.appendE at h
        (repeat' split at h) <;> first | (cases h; done) | exact append_lm (okO_val h)
      · split at h
        · unfold Fr.panicE at h; (repeat' split at h) <;> first | (cases h; done) | (cases h; rfl)
        · cases h
      · split at h
        · unfold Fr.recoverE at h; (repeat' split at h) <;> first | (cases h; done) | (cases h; rfl)
        · cases h
      · cases h
theorem stepOp_lm {cl : FuncId → List AV → Heap → COut} {rd : Nat → List AV → Heap → COut} {ops : Array Oper} (s : St C lam ms F b a w cs) {o : Oper} {v : AV} {F' : Fr} {t : Tmp} (hb : boxy o.op = false) (h : stepOp X cl rd ops o F = .val v F') (hl : lam t = none) : F'.lm.get t = F.lm.get t := by
  have put : ∀ (G : Fr) u, (G.put o.dst u).lm = G.lm := fun G u => by cases o.dst <;> rfl
  unfold stepOp at h
  split at h
  · cases h
  · split at h
    · split at h
      · split at h
        · rename_i v1 F1 e1
          cases h
          rw [put]
          exact ef_lm s hb e1 hl
        · rename_i r hne
          rw [h] at hne
          exact absurd rfl (hne v F')
      · split at h
        · cases h; rw [put]
        · cases h
    · cases h; rw [put]
end
end Go.AM
namespace Go.AM
open Go
variable [Keep]
structure Mid (X : Ctx) (ops : Array Oper) (F0 : Fr) (ts : List (Nat × Trace)) (D : Nat → Bool) (C : Cfg) (lam : Nat → Option Nat) (ms : List Nat) (F : Fr) (b : Frame) (a : Act) (w : World) (cs : List Frame) : Prop where
  st : St C lam ms F b a w cs
  at_ : At X ops F0 ts ((canon ops).filter D) F
  al : ∀ j o s, ops[j]? = some o → isAlloc o = true → D j = false → o.dst = some s → lam s = none ∧ F.lm.get s = F0.lm.get s
  fn : F.f = F0.f
structure Reg (X : Ctx) (cl : FuncId → List AV → Heap → COut) (rd : Nat → List AV → Heap → COut) (ops : Array Oper) (F0 : Fr) (ts : List (Nat × Trace)) (AA BB : List Nat) : Prop where
  ok : drawOk X F0.f ops = true
  calm : ∀ p ∈ hotPairs X F0.f ops, calmPair X F0.f ops ts p = true
  steps : StepsAt X cl rd ops F0 ts [] AA
  all : canon ops = AA ++ BB
  laid : ∀ o s t, o ∈ ops.toList → o.op = .alloc t → o.dst = some s → ∃ z g, zeroT X.P t = some z ∧ isTuple z = false ∧ F0.lm.get s = some (g, z.cells)
section
variable {X : Ctx} {cl : FuncId → List AV → Heap → COut} {rd : Nat → List AV → Heap → COut} {ops : Array Oper} {F0 : Fr} {ts : List (Nat × Trace)} {AA BB A B : List Nat} {D : Nat → Bool} {i : Nat} {o : Oper}
theorem Reg.trace (g : Reg X cl rd ops F0 ts AA BB) {z : Nat} (hz : z ∈ AA) : ∃ A B o FA FB, AA = A ++ z :: B ∧ StepAt X cl rd ops F0 ts A z o FA FB := by
  obtain ⟨A, B, e⟩ := List.append_of_mem hz
  obtain ⟨o, FA, FB, h⟩ := g.steps A z B e
  exact ⟨A, B, o, FA, FB, e, by simpa using h⟩
theorem relA (hok : drawOk X F0.f ops = true) (hc : Closed ops D) (hr : Ready ops D i) (e : canon ops = A ++ i :: B) (ho : ops[i]? = some o) {z : Nat} (hz : z ∈ A) :
    D z = true ∨ (waits ops i z = false ∧ ∃ x, ops[z]? = some x ∧ apartT ops x o = true ∧ (isEffD X F0.f x = true → isEffD X F0.f o = true → False)) := by
  cases hw : waits ops i z with
  | true => exact .inl (hr.waits hc hw)
  | false =>
    obtain ⟨A1, A2, rfl⟩ := List.append_of_mem hz
    obtain ⟨x, y, hx, hy, h1, h2⟩ := drawOk_pair (i := z) (j := i) hok (A := A1) (B := A2 ++ i :: B) (by rw [e]; simp) (by simp) hw
    rw [ho] at hy
    cases hy
    exact .inr ⟨rfl, x, hx, h1, h2⟩
theorem relB (hok : drawOk X F0.f ops = true) (hc : Closed ops D) (hr : Ready ops D i) (e : canon ops = A ++ i :: B) (ho : ops[i]? = some o) {z : Nat} (hz : z ∈ B) :
    D z = false ∨ (waits ops z i = false ∧ ∃ y, ops[z]? = some y ∧ apartT ops o y = true ∧ (isEffD X F0.f o = true → isEffD X F0.f y = true → False)) := by
  cases hd : D z with
  | false => exact .inl rfl
  | true =>
    cases hw : waits ops z i with
    | true =>
      have := hc.waits z z i (Nat.le_refl _) hd hw
      rw [hr.1] at this
      cases this
    | false =>
      obtain ⟨x, y, hx, hy, h1, h2⟩ := drawOk_pair hok e hz hw
      rw [ho] at hx
      cases hx
      exact .inr ⟨rfl, y, hy, h1, h2⟩
theorem mid_agree (hok : drawOk X F0.f ops = true) (hc : Closed ops D) (hr : Ready ops D i) (e : canon ops = A ++ i :: B) (ho : ops[i]? = some o) {F FA : Fr} (hF : At X ops F0 ts ((canon ops).filter D) F) (hA : At X ops F0 ts A FA) : Agree ops o F FA := by
  intro t ht
  rw [hF.env, hA.env]
  unfold envAt
  rw [e, filter_split hr.1 (p := wrB ops t) (fun z hz hp => ?_) (fun z hz hp => ?_)]
  · rcases relA hok hc hr e ho hz with h | ⟨_, x, hx, h, _⟩
    · exact h
    · unfold wrB at hp
      rw [hx] at hp
      exact absurd ht ((apart_spec h).1 t (by simpa using hp))
  · rcases relB hok hc hr e ho hz with h | ⟨_, y, hy, h, _⟩
    · exact h
    · unfold wrB at hp
      rw [hy] at hp
      exact absurd ht ((apart_spec h).2.2 t (by simpa using hp))
theorem mid_eff (hok : drawOk X F0.f ops = true) (hc : Closed ops D) (hr : Ready ops D i) (e : canon ops = A ++ i :: B) (ho : ops[i]? = some o) (he : isEffD X F0.f o = true) : ((canon ops).filter D).filter (efB X F0.f ops) = A.filter (efB X F0.f ops) := by
  rw [e]
  refine filter_split hr.1 (fun z hz hp => ?_) (fun z hz hp => ?_)
  · rcases relA hok hc hr e ho hz with h | ⟨_, x, hx, _, h⟩
    · exact h
    · unfold efB at hp
      rw [hx] at hp
      exact (h hp he).elim
  · rcases relB hok hc hr e ho hz with h | ⟨_, y, hy, _, h⟩
    · exact h
    · unfold efB at hp
      rw [hy] at hp
      exact (h he hp).elim
theorem mid_mem_eff (hok : drawOk X F0.f ops = true) (hc : Closed ops D) (hr : Ready ops D i) (e : canon ops = A ++ i :: B) (ho : ops[i]? = some o) (he : isEffD X F0.f o = true) : memAt X ops F0 ts ((canon ops).filter D) = memAt X ops F0 ts A := by
  unfold memAt
  rw [mid_eff hok hc hr e ho he]
theorem mid_env (hok : drawOk X F0.f ops = true) (hc : Closed ops D) (hr : Ready ops D i) (e : canon ops = A ++ i :: B) (ho : ops[i]? = some o) (t : Tmp) :
    envAt ops F0 ts ((canon ops).filter (addD D i)) t = if o.dst = some t then some (valOf ts i) else envAt ops F0 ts ((canon ops).filter D) t := by
  have hn := canon_nodup (ops := ops)
  rw [e] at hn
  unfold envAt
  rw [e, filter_add hn hr.1, filter_plain hr.1]
  have hw : wrB ops t i = (o.dst == some t) := by simp [wrB, ho]
  simp only [List.filter_append, List.filter_cons]
  by_cases h : o.dst = some t
  · have h1 : wrB ops t i = true := by rw [hw]; simpa using h
    have h2 : (B.filter D).filter (wrB ops t) = [] := by
      rw [List.filter_filter, List.filter_eq_nil_iff]
      intro z hz hp
      simp only [Bool.and_eq_true] at hp
      rcases relB hok hc hr e ho hz with h' | ⟨_, y, hy, h', _⟩
      · rw [h'] at hp; simp at hp
      · unfold wrB at hp
        rw [hy] at hp
        exact (apart_spec h').2.1 t h (by simpa using hp.1)
    rw [if_pos h, h1, if_pos rfl, h2]
    simp
  · have h1 : wrB ops t i = false := by rw [hw]; simpa using h
    rw [if_neg h, h1]
    rfl
theorem mid_mem (hok : drawOk X F0.f ops = true) (hc : Closed ops D) (hr : Ready ops D i) (e : canon ops = A ++ i :: B) (ho : ops[i]? = some o) :
    memAt X ops F0 ts ((canon ops).filter (addD D i)) = if isEffD X F0.f o = true then aftOf F0 ts i else memAt X ops F0 ts ((canon ops).filter D) := by
  have hn := canon_nodup (ops := ops)
  rw [e] at hn
  unfold memAt
  rw [e, filter_add hn hr.1, filter_plain hr.1]
  have hw : efB X F0.f ops i = isEffD X F0.f o := by simp [efB, ho]
  simp only [List.filter_append, List.filter_cons, hw]
  cases h : isEffD X F0.f o with
  | true =>
    have h2 : (B.filter D).filter (efB X F0.f ops) = [] := by
      rw [List.filter_filter, List.filter_eq_nil_iff]
      intro z hz hp
      simp only [Bool.and_eq_true] at hp
      rcases relB hok hc hr e ho hz with h' | ⟨_, y, hy, _, h'⟩
      · rw [h'] at hp; simp at hp
      · unfold efB at hp
        rw [hy] at hp
        exact h' h hp.1
    rw [h2]
    simp
  | false => simp
theorem mid_read (g : Reg X cl rd ops F0 ts AA BB) (hc : Closed ops D) (hr : Ready ops D i) (hD : ∀ z, D z = true → z ∈ AA) {B' : List Nat} (eA : AA = A ++ i :: B') {FA FB F : Fr} (h : StepAt X cl rd ops F0 ts A i o FA FB)
    (hF : At X ops F0 ts ((canon ops).filter D) F) (hE : isEffD X F0.f o = false) (hl : isAlloc o = false) (hw : wantedA ops FA o = true) (hg : guardOk ops FA o = true) : rdV X F o.dst o.op = rdV X FA o.dst o.op := by
  have e : canon ops = A ++ i :: (B' ++ BB) := by rw [g.all, eA]; simp
  have ag := mid_agree g.ok hc hr e h.op hF h.at_
  have hEa : isEffAt X FA.f o = false := by
    unfold isEffD at hE
    rw [hl] at hE
    rw [h.fn]
    simpa using hE
  have hst := h.st
  have hv : rdV X FA o.dst o.op = some (valOf ts i) := by
    unfold stepD stepOp at hst
    rw [hl, hg, hw, hEa] at hst
    simp only [Bool.not_true, Bool.false_eq_true, if_false, if_true] at hst
    split at hst
    · rename_i v hv
      cases hst
      exact hv
    · cases hst
  cases hm : mayRead o with
  | false => exact rd_blind hm hl ag.opd
  | true =>
    have reads : ∀ M : Fr, F = { M with e := F.e } → rereads X ops o ⟨FA, valOf ts i, FB⟩ M = true → rdV X F o.dst o.op = rdV X FA o.dst o.op := fun M hM hre => by
      unfold rereads at hre
      simp only [hw, if_true] at hre
      split at hre
      · rename_i v hv'
        have := AV.same_eq _ _ hre
        subst this
        rw [hv, ← hv']
        exact rd_congr (fun x hx => ag.opd x hx) (by rw [hM]) (by rw [hM])
      · cases hre
    have hotA : ∀ z ∈ A, D z = false → ∀ x, ops[z]? = some x → isEffD X F0.f x = true → (z, i) ∈ hotPairs X F0.f ops := fun z hz hd x hx hx' => by
      have hwt : waits ops i z = false := by
        rcases relA g.ok hc hr e h.op hz with h' | ⟨h', _⟩
        · rw [hd] at h'; cases h'
        · exact h'
      obtain ⟨A1, A2, rfl⟩ := List.append_of_mem hz
      refine List.mem_filter.2 ⟨by rw [e]; exact (by simpa using loose_mem (waits ops) A1 z (A2 ++ i :: (B' ++ BB)) i (by simp) hwt), ?_⟩
      unfold hotPair
      simp only [hx, h.op, hx', hm, Bool.and_self, Bool.true_or]
    have hotB : ∀ z ∈ B' ++ BB, D z = true → ∀ x, ops[z]? = some x → isEffD X F0.f x = true → (i, z) ∈ hotPairs X F0.f ops := fun z hz hd x hx hx' => by
      have hwt : waits ops z i = false := by
        rcases relB g.ok hc hr e h.op hz with h' | ⟨h', _⟩
        · rw [hd] at h'; cases h'
        · exact h'
      refine List.mem_filter.2 ⟨by rw [e]; exact loose_mem (waits ops) A i (B' ++ BB) z hz hwt, ?_⟩
      unfold hotPair
      simp only [hx, h.op, hx', hm, Bool.and_self, Bool.or_true]
    have opOf : ∀ z, efB X F0.f ops z = true → ∃ x, ops[z]? = some x ∧ isEffD X F0.f x = true := fun z hz => by
      unfold efB at hz
      split at hz
      · rename_i x hx; exact ⟨x, hx, hz⟩
      · cases hz
    have chain : ∀ (L1 L2 : List Nat) (z z' : Nat), canon ops = L1 ++ z :: L2 → z' ∈ L2 → efB X F0.f ops z = true → efB X F0.f ops z' = true → D z' = true → D z = true := fun L1 L2 z z' e1 hz h1 h2 hd => by
      cases hwt : waits ops z' z with
      | true => exact hc.waits z' z' z (Nat.le_refl _) hd hwt
      | false =>
        obtain ⟨x, y, hx, hy, _, hne⟩ := drawOk_pair g.ok e1 hz hwt
        obtain ⟨x', hx', ex⟩ := opOf z h1
        obtain ⟨y', hy', ey⟩ := opOf z' h2
        rw [hx] at hx'; rw [hy] at hy'
        cases hx'; cases hy'
        exact (hne ex ey).elim
    by_cases c1 : ∃ z ∈ A, (efB X F0.f ops z && !D z) = true
    ·
      obtain ⟨A1, x, A2, e1, hx, hfirst⟩ := first_with _ A c1
      simp only [Bool.and_eq_true, Bool.not_eq_true'] at hx
      obtain ⟨ox, hox, hex⟩ := opOf x hx.1
      obtain ⟨o1, FA1, FB1, hS⟩ := g.steps A1 x (A2 ++ i :: B') (by rw [eA, e1]; simp)
      simp only [List.nil_append] at hS
      have hcalm := g.calm _ (hotA x (by rw [e1]; simp) hx.2 ox hox hex)
      unfold calmPair at hcalm
      simp only [hox, h.op, hS.tr, h.tr, hex, if_true] at hcalm
      refine reads FA1 ?_ hcalm
      have hmem : memAt X ops F0 ts ((canon ops).filter D) = memAt X ops F0 ts A1 := by
        unfold memAt
        have : ((canon ops).filter D).filter (efB X F0.f ops) = A1.filter (efB X F0.f ops) := by
          have e2 : canon ops = A1 ++ x :: (A2 ++ i :: (B' ++ BB)) := by rw [e, e1]; simp
          rw [e2]
          refine filter_split hx.2 (fun z hz hp => ?_) (fun z hz hp => ?_)
          · have := hfirst z hz
            rw [hp] at this
            simpa using this
          · cases hd : D z with
            | false => rfl
            | true =>
              have := chain A1 _ x z e2 hz hx.1 hp hd
              rw [hx.2] at this
              cases this
        rw [this]
      have h1 := hF.mem
      have h2 := hS.at_.mem
      rw [hmem] at h1
      rw [h1, h2]
    · have hA : ∀ z ∈ A, efB X F0.f ops z = true → D z = true := fun z hz hp => by
        cases hd : D z with
        | true => rfl
        | false => exact absurd ⟨z, hz, by simp [hp, hd]⟩ c1
      by_cases c2 : ∃ z ∈ B' ++ BB, (efB X F0.f ops z && D z) = true
      ·
        obtain ⟨B1, x, B2, e1, hx, hlast⟩ := last_with _ _ c2
        simp only [Bool.and_eq_true] at hx
        obtain ⟨ox, hox, hex⟩ := opOf x hx.1
        obtain ⟨A1, A2, o1, FA1, FB1, _, hS⟩ := g.trace (hD x hx.2)
        have hcalm := g.calm _ (hotB x (by rw [e1]; simp) hx.2 ox hox hex)
        unfold calmPair at hcalm
        simp only [hox, h.op, hS.tr, h.tr, hE, Bool.false_eq_true, if_false] at hcalm
        refine reads FB1 ?_ hcalm
        have hmem : memAt X ops F0 ts ((canon ops).filter D) = FB1 := by
          unfold memAt
          have e2 : canon ops = (A ++ i :: B1) ++ x :: B2 := by rw [e, e1]; simp
          have : (((canon ops).filter D).filter (efB X F0.f ops)).getLast? = some x := by
            rw [e2, List.filter_append, List.filter_append, List.filter_cons, hx.2, if_pos rfl, List.filter_cons, hx.1, if_pos rfl]
            have : (B2.filter D).filter (efB X F0.f ops) = [] := by
              rw [List.filter_filter, List.filter_eq_nil_iff]
              intro z hz hp
              rw [hlast z hz] at hp
              cases hp
            rw [this]
            simp
          rw [this]
          simp [aftOf, hS.tr]
        have h1 := hF.mem
        rw [hmem] at h1
        exact h1
      ·
        have hB : ∀ z ∈ B' ++ BB, efB X F0.f ops z = true → D z = false := fun z hz hp => by
          cases hd : D z with
          | false => rfl
          | true => exact absurd ⟨z, hz, by simp [hp, hd]⟩ c2
        have hmem : memAt X ops F0 ts ((canon ops).filter D) = memAt X ops F0 ts A := by
          unfold memAt
          rw [e, filter_split hr.1 hA hB]
        have h1 := hF.mem
        have h2 := h.at_.mem
        rw [hmem] at h1
        exact rd_congr ag.opd (by rw [h1, h2]) (by rw [h1, h2])
end
end Go.AM
namespace Go.AM
open Go
variable [Keep]
section
variable {X : Ctx} {cl : FuncId → List AV → Heap → COut} {rd : Nat → List AV → Heap → COut} {ops : Array Oper} {F0 : Fr} {ts : List (Nat × Trace)} {AA BB A : List Nat} {D : Nat → Bool} {i : Nat} {o : Oper}
  {C : Cfg} {lam : Nat → Option Nat} {ms : List Nat} {F : Fr} {b : Frame} {a : Act} {w : World} {cs : List Frame} {k : List Item} {rest : List Nat}
theorem At.alloc (hok : drawOk X F0.f ops = true) {B : List Nat} (e : canon ops = A ++ i :: B) (ho : ops[i]? = some o) (ha : isAlloc o = true) {FA : Fr} (h : At X ops F0 ts A FA) : FA = { F0 with e := FA.e } := by
  have : memAt X ops F0 ts A = F0 := by
    unfold memAt
    have : A.filter (efB X F0.f ops) = [] := by
      rw [List.filter_eq_nil_iff]
      intro z hz hp
      have := canon_alloc e (by unfold allocAt; rw [ho]; exact ha) z hz
      unfold allocAt at this
      unfold efB at hp
      split at this
      · rename_i x hx
        rw [hx] at hp
        simp only [isEffD, this] at hp
        simp at hp
      · cases this
    rw [this]
    rfl
  have h1 := h.mem
  rw [this] at h1
  exact h1
theorem put_same (F : Fr) (d : Option Tmp) (v : AV) : F.put d v = { F with e := (F.put d v).e } := by cases d <;> rfl
theorem put_lm (F : Fr) (d : Option Tmp) (v : AV) : (F.put d v).lm = F.lm := by cases d <;> rfl
theorem put_f (F : Fr) (d : Option Tmp) (v : AV) : (F.put d v).f = F.f := by cases d <;> rfl
theorem mid_step (hP : NoNum X.P) (hcl : ClOK X.P cl) (hrd : RdOK X.P rd) (g : Reg X cl rd ops F0 ts AA BB) (hc : Closed ops D) (hr : Ready ops D i) (hD : ∀ z, D z = true → z ∈ AA) {B' : List Nat} (eA : AA = A ++ i :: B') {FA FB : Fr}
    (h : StepAt X cl rd ops F0 ts A i o FA FB) (m : Mid X ops F0 ts D C lam ms F b a w cs) (hdst : ∀ t, o.dst = some t → t < a.tmps.size) :
    ∃ C' lam' a' cs' w' F', Steps X.P (lone (b.atR a (.inRegion ops (i :: rest) :: k)) cs w) (lone (b.atR a' (.inRegion ops rest :: k)) cs' w') ∧ Fin C lam ms F b a w cs F' C' lam' ms a' cs' w' ∧ Mid X ops F0 ts (addD D i) C' lam' ms F' b a' w' cs' := by
  have e : canon ops = A ++ i :: (B' ++ BB) := by rw [g.all, eA]; simp
  have ho := h.op
  obtain ⟨_, hal, hbx, hnd⟩ := drawOk_shape g.ok ho
  have henv := mid_env (ts := ts) g.ok hc hr e ho
  have hmem := mid_mem (ts := ts) g.ok hc hr e ho
  have hadd : ∀ j, addD D i j = false → D j = false := fun j hj => by
    unfold addD at hj
    simp only [Bool.or_eq_false_iff] at hj
    exact hj.2
  cases ha : isAlloc o with
  | true =>
    obtain ⟨hg, _, d, hd, _⟩ := hal ha
    obtain ⟨t, hop⟩ : ∃ t, o.op = .alloc t := by
      unfold isAlloc at ha
      split at ha
      · rename_i t e; exact ⟨t, e⟩
      · cases ha
    obtain ⟨z, gn, hz, ht, hget⟩ := g.laid o d t (by rw [← Array.getElem?_toList] at ho; exact List.mem_of_getElem? ho) hop hd
    obtain ⟨hlam, hlm⟩ := m.al i o d ho ha hr.1 hd
    have hv : valOf ts i = .lptr d gn 0 := by
      have hst := h.st
      have hFA := At.alloc g.ok e ho ha h.at_
      unfold stepD at hst
      rw [ha, hop, hd] at hst
      simp only [if_true, rdV, Fr.allocV] at hst
      have : FA.lm.get d = some (gn, z.cells) := by rw [hFA]; exact hget
      rw [this] at hst
      simp only [OOut.val.injEq] at hst
      exact hst.1.symm
    obtain ⟨zv, z1, z2, _⟩ := run_zero (P := X.P) (w := w) (C := C) hz
    obtain ⟨k1, k2⟩ := z2.cells (not_tuple ht)
    obtain ⟨k3, k4, k5⟩ := m.st.layBox (t := d) (g := gn) (T := t) hlam (hlm.trans hget) k1 k2
    have hstep := stepA_value (P := X.P) (b := b) (a := a) (cs := cs) (rest := rest) (k := k) (u := .pointer (some ⟨w.heap.size, 0, none⟩)) (w := w) (w' := { w with heap := w.heap.push (.cells zv.cells t) }) ho
      (by unfold Region.wanted; rw [hg]) hnd (by simp [execOp, hop, Instr.alloc, z1, newVar, newRow])
    refine ⟨C, lamSet lam d w.heap.size, _, cs, _, F.put o.dst (valOf ts i), .one hstep, ⟨by rw [Act.put_size], k4.put (by rw [hv]; exact k3) hdst, by rw [fin_hp]; exact k5, .refl b cs⟩,
      { st := k4.put (by rw [hv]; exact k3) hdst, at_ := ⟨fun t => ?_, ?_⟩, al := fun j o' s hj haj hdj hs => ?_, fn := by rw [put_f]; exact m.fn }⟩
    · rw [put_get, henv t, m.at_.env t]
    · rw [hmem]
      have : isEffD X F0.f o = false := by simp [isEffD, ha]
      rw [this]
      simp only [Bool.false_eq_true, if_false]
      rw [put_same]
      have := m.at_.mem
      have q := congrArg (fun G : Fr => ({ G with e := (F.put o.dst (valOf ts i)).e } : Fr)) this
      exact q
    · obtain ⟨q1, q2⟩ := m.al j o' s hj haj (hadd j hdj) hs
      have hne : s ≠ d := fun e' => by
        subst e'
        have := alloc_one g.ok hj ho haj ha hs hd
        subst this
        simp [addD] at hdj
      refine ⟨by simp only [lamSet]; rw [if_neg hne]; exact q1, by rw [put_lm]; exact q2⟩
  | false =>
    have hb := hbx ha
    have hst : stepOp X cl rd ops o FA = .val (valOf ts i) FB := by
      have := h.st
      unfold stepD at this
      rw [ha] at this
      simpa using this
    have ag := mid_agree g.ok hc hr e ho m.at_ h.at_
    have main : ∃ F', stepOp X cl rd ops o F = .val (valOf ts i) F' ∧ (∀ t, F'.e.get t = if o.dst = some t then some (valOf ts i) else F.e.get t) ∧ F' = { memAt X ops F0 ts ((canon ops).filter (addD D i)) with e := F'.e } := by
      rw [hmem]
      cases hE : isEffD X F0.f o with
      | true =>
        have hsame := mid_mem_eff (ts := ts) g.ok hc hr e ho hE
        have hF : F = { FA with e := F.e } := by
          have h1 := m.at_.mem
          have h2 := h.at_.mem
          rw [hsame] at h1
          rw [h2]
          exact h1
        have hs := stepOp_same (cl := cl) (rd := rd) (ops := ops) (X := X) (F := FA) (e := F.e) hb (by rw [← hF]; exact ag)
        rw [← hF, hst] at hs
        simp only at hs
        refine ⟨_, hs, fun t => ?_, ?_⟩
        · show (F.put o.dst (valOf ts i)).e.get t = _
          rw [put_get]
        · simp only [if_true, aftOf, h.tr]
      | false =>
        have hf : F.f = FA.f := m.fn.trans h.fn.symm
        have hEa : isEffAt X FA.f o = false := by
          unfold isEffD at hE
          rw [ha] at hE
          rw [h.fn]
          simpa using hE
        have hg : guardOk ops FA o = true := by
          cases hg : guardOk ops FA o with
          | true => rfl
          | false => unfold stepOp at hst; rw [hg] at hst; simp at hst
        obtain ⟨q1, q2⟩ := stepOp_read (G := F) hf hEa ag hst (fun hw => mid_read g hc hr hD eA h m.at_ hE ha hw hg)
        refine ⟨_, q1, fun t => put_get _ _ _ _, ?_⟩
        simp only [Bool.false_eq_true, if_false]
        rw [put_same]
        have := m.at_.mem
        have q := congrArg (fun G : Fr => ({ G with e := (F.put o.dst (valOf ts i)).e } : Fr)) this
        exact q
    obtain ⟨F', hF', henv', hmem'⟩ := main
    have hrun := stepOp_ok (k := k) (rest := rest) (i := i) hP hcl hrd m.st ho hdst (fun h' => by rw [ha] at h'; cases h')
    rw [hF'] at hrun
    obtain ⟨C', lam', a', cs', w', r1, r2, r3⟩ := hrun
    have r3 := r3 hb
    subst r3
    refine ⟨C', lam', a', cs', w', F', r1, r2, { st := r2.2.1, at_ := ⟨fun t => ?_, hmem'⟩, al := fun j o' s hj haj hdj hs => ?_, fn := (stepOp_shape hF').2.2.trans m.fn }⟩
    · rw [henv' t, henv t, m.at_.env t]
    · obtain ⟨q1, q2⟩ := m.al j o' s hj haj (hadd j hdj) hs
      exact ⟨q1, (stepOp_lm m.st hb hF' q1).trans q2⟩
end
end Go.AM
namespace Go.AM
open Go
variable [Keep]
def listedD (listed : Array Bool) : Nat → Bool := fun z => listed.getD z false
def unlisted (n : Nat) (listed : Array Bool) : Nat := ((List.range n).filter fun i => !listed.getD i true).length
theorem filter_less {p q : Nat → Bool} : ∀ (l : List Nat), (∀ z ∈ l, q z = true → p z = true) → (∃ x ∈ l, p x = true ∧ q x = false) → (l.filter q).length < (l.filter p).length := by
  intro l
  induction l with
  | nil => rintro _ ⟨x, hx, _⟩; simp at hx
  | cons y l ih =>
    intro h hex
    have hle : (l.filter q).length ≤ (l.filter p).length := by
      have : l.filter q = (l.filter p).filter q := by
        rw [List.filter_filter]
        apply List.filter_congr
        intro z hz
        cases hq : q z with
        | false => simp
        | true => simp [h z (by simp [hz]) hq]
      rw [this]
      exact List.length_filter_le _ _
    by_cases hl : ∃ x ∈ l, p x = true ∧ q x = false
    · have := ih (fun z hz => h z (by simp [hz])) hl
      simp only [List.filter_cons]
      cases hq : q y with
      | true => rw [h y (by simp) hq]; simp; omega
      | false => cases hp : p y <;> simp <;> omega
    · obtain ⟨x, hx, h1, h2⟩ := hex
      rcases List.mem_cons.1 hx with rfl | hx
      · simp only [List.filter_cons, h1, h2]
        simp
        omega
      · exact absurd ⟨x, hx, h1, h2⟩ hl
theorem listed_add {listed : Array Bool} {i : Nat} (hi : i < listed.size) : listedD (listed.setIfInBounds i true) = addD (listedD listed) i := by
  funext z
  unfold listedD addD
  simp only [Array.getD_eq_getD_getElem?, Array.getElem?_setIfInBounds]
  by_cases h : i = z
  · subst h; simp [hi]
  · have : (z == i) = false := by simpa using fun e => h e.symm
    simp [h, this]
theorem getD_out {listed : Array Bool} {i : Nat} (hi : i < listed.size) (x y : Bool) : listed.getD i x = listed.getD i y := by
  simp [Array.getD, hi]
theorem unlisted_less {listed : Array Bool} {i : Nat} (hi : i < listed.size) (h : listed.getD i true = false) : unlisted listed.size (listed.setIfInBounds i true) < unlisted listed.size listed := by
  unfold unlisted
  refine filter_less _ (fun z hz hq => ?_) ⟨i, List.mem_range.2 hi, by rw [h]; rfl, by simp [hi]⟩
  simp only [Array.getD_eq_getD_getElem?, Array.getElem?_setIfInBounds] at hq ⊢
  by_cases e : i = z
  · subst e; simp [hi] at hq
  · simpa [e] using hq
section
variable {X : Ctx} {cl : FuncId → List AV → Heap → COut} {rd : Nat → List AV → Heap → COut} {ops : Array Oper} {F0 : Fr} {ts : List (Nat × Trace)} {AA BB A : List Nat} {D : Nat → Bool} {i : Nat} {o : Oper}
  {C : Cfg} {lam : Nat → Option Nat} {ms : List Nat} {F : Fr} {b : Frame} {a : Act} {w : World} {cs : List Frame} {k : List Item} {rest : List Nat}
theorem ready_of {listed : Array Bool} (hs : listed.size = ops.size) (h : i ∈ Region.ready .any ops listed) : i < ops.size ∧ listed.getD i true = false ∧ Ready ops (listedD listed) i := by
  unfold Region.ready at h
  obtain ⟨h1, h2⟩ := List.mem_filter.1 h
  have hi := List.mem_range.1 h1
  simp only [Bool.and_eq_true, Bool.not_eq_true'] at h2
  refine ⟨hi, h2.1, ?_, ?_⟩
  · unfold listedD
    rw [getD_out (by omega) false true]
    exact h2.1
  · have h3 := h2.2
    rw [Array.getElem?_eq_getElem hi] at h3 ⊢
    refine ⟨_, rfl, fun e he hb => ?_⟩
    simp only [Option.map_some, Option.getD_some] at h3
    rw [← Array.all_toList] at h3
    have := List.all_eq_true.1 h3 e he
    rw [hb] at this
    simpa [listedD] using this
theorem none_ready {f : FuncId} (hok : drawOk X f ops = true) {listed : Array Bool} (hs : listed.size = ops.size) (h : Region.ready .any ops listed = []) : ∀ i, i < ops.size → listedD listed i = true := by
  intro i
  induction i using Nat.strongRecOn with
  | _ i ih =>
    intro hi
    cases hd : listedD listed i with
    | true => rfl
    | false =>
      exfalso
      have : i ∈ Region.ready .any ops listed := by
        unfold Region.ready
        refine List.mem_filter.2 ⟨List.mem_range.2 hi, ?_⟩
        have h1 : listed.getD i true = false := by rw [getD_out (by omega) true false]; exact hd
        rw [h1, Array.getElem?_eq_getElem hi]
        simp only [Bool.not_false, Bool.true_and, Option.map_some, Option.getD_some]
        rw [← Array.all_toList]
        refine List.all_eq_true.2 fun e he => ?_
        cases hb : Region.binds .any e with
        | false => rfl
        | true =>
          have := (drawOk_shape hok (Array.getElem?_eq_getElem hi)).1 e he hb
          have := ih e.on this (by omega)
          simpa [listedD] using this
      rw [h] at this
      simp at this
theorem junkAll_get : ∀ (l : List Oper) (F : Fr) (t : Tmp), (junkAll l F).e.get t = if l.any (fun o => o.dst == some t) then some .junk else F.e.get t := by
  intro l
  induction l with
  | nil => intro F t; rfl
  | cons o l ih =>
    intro F t
    simp only [junkAll, ih, put_get, List.any_cons]
    by_cases h : l.any (fun o => o.dst == some t) = true
    · simp [h]
    · by_cases h2 : o.dst = some t
      · simp [h2]
      · simp [h, h2]
theorem junkAll_same : ∀ (l : List Oper) (F : Fr), junkAll l F = { F with e := (junkAll l F).e } := by
  intro l
  induction l with
  | nil => intro F; rfl
  | cons o l ih =>
    intro F
    simp only [junkAll]
    rw [ih]
    have q := congrArg (fun G : Fr => ({ G with e := (junkAll l (F.put o.dst .junk)).e } : Fr)) (put_same F o.dst .junk)
    exact q
inductive Goal (X : Ctx) (cl : FuncId → List AV → Heap → COut) (rd : Nat → List AV → Heap → COut) (ops : Array Oper) (F0 : Fr) (ts : List (Nat × Trace)) (AA BB : List Nat) : Out → Prop
  | norm {F' : Fr} : BB = [] → At X ops F0 ts AA F' → Goal X cl rd ops F0 ts AA BB (.norm F')
  | pan {i : Nat} {B : List Nat} {o : Oper} {FA F' : Fr} {v : AV} : BB = i :: B → ops[i]? = some o → stepD X cl rd ops o FA = .pan v F' → At X ops F0 ts AA FA → FA.f = F0.f → (∀ j ∈ B, waits ops j i = true) → Goal X cl rd ops F0 ts AA BB (.pan v (junkAll ops.toList F'))
theorem St.toE (s : St C lam ms F b a w cs) {G : Fr} (h : G = { F with e := G.e }) (he : ∀ t, G.e.get t = some .junk ∨ G.e.get t = F.e.get t) : St C lam ms G b a w cs := by
  rw [h]
  refine s.withE fun t => ?_
  rcases he t with he | he
  · exact .inl (by simp only [Fr.tmp, he])
  · exact .inr (by simp only [Fr.tmp, he])
theorem mid_end (g : Reg X cl rd ops F0 ts AA []) {F' : Fr} (hall : ∀ i, i < ops.size → D i = true) (m : Mid X ops F0 ts D C lam ms F b a w cs) (h : At X ops F0 ts AA F') : St C lam ms F' b a w cs ∧ F'.hp = F.hp := by
  have hf : (canon ops).filter D = AA := by
    rw [g.all, List.append_nil]
    have : AA = canon ops := by rw [g.all, List.append_nil]
    rw [this]
    exact List.filter_eq_self.2 fun i hi => hall i (canon_mem.1 hi)
  have m1 := m.at_
  rw [hf] at m1
  have hmem : F' = { F with e := F'.e } := by
    have h1 := m1.mem
    have h2 := h.mem
    have h3 := congrArg (fun G : Fr => ({ G with e := F'.e } : Fr)) h1
    have h4 : ({ F with e := F'.e } : Fr) = { memAt X ops F0 ts AA with e := F'.e } := h3
    rw [h4]
    exact h2
  exact ⟨m.st.toE hmem fun t => .inr (by rw [h.env, m1.env]), by rw [hmem]⟩
theorem mid_pan (hP : NoNum X.P) (hcl : ClOK X.P cl) (hrd : RdOK X.P rd) (hok : drawOk X F0.f ops = true) (hc : Closed ops D) (hr : Ready ops D i) {B : List Nat} (e : canon ops = A ++ i :: B) (ho : ops[i]? = some o) {FA F' : Fr} {v : AV}
    (hst : stepD X cl rd ops o FA = .pan v F') (hA : At X ops F0 ts A FA) (hfa : FA.f = F0.f) (m : Mid X ops F0 ts D C lam ms F b a w cs) (hdst : ∀ t, o.dst = some t → t < a.tmps.size) :
    Outs X.P (lone (b.atR a (.inRegion ops (i :: rest) :: k)) cs w) C lam ms F b a w cs k (.pan v (junkAll ops.toList F')) := by
  have hal : isAlloc o = false := by
    cases ha : isAlloc o with
    | false => rfl
    | true =>
      unfold stepD at hst
      rw [ha] at hst
      simp only [if_true] at hst
      split at hst <;> cases hst
  have hst' : stepOp X cl rd ops o FA = .pan v F' := by
    unfold stepD at hst
    rw [hal] at hst
    simpa using hst
  have hb := (drawOk_shape hok ho).2.2.1 hal
  have hE : isEffD X F0.f o = true := by
    unfold isEffD
    rw [hal]
    cases he : isEffAt X F0.f o with
    | true => rfl
    | false =>
      exfalso
      unfold stepOp at hst'
      rw [hfa, he] at hst'
      simp only [Bool.false_eq_true, if_false] at hst'
      (repeat' split at hst') <;> cases hst'
  have ag := mid_agree hok hc hr e ho m.at_ hA
  have hsame := mid_mem_eff (ts := ts) hok hc hr e ho hE
  have hF : F = { FA with e := F.e } := by
    have h1 := m.at_.mem
    have h2 := hA.mem
    rw [hsame] at h1
    rw [h2]
    exact h1
  have hs := stepOp_same (cl := cl) (rd := rd) (ops := ops) (X := X) (F := FA) (e := F.e) hb (by rw [← hF]; exact ag)
  rw [← hF, hst'] at hs
  simp only at hs
  have hrun := stepOp_ok (k := k) (rest := rest) (i := i) hP hcl hrd m.st ho hdst (fun h' => by rw [hal] at h'; cases h')
  rw [hs] at hrun
  obtain ⟨C', lam', a', cs', w', u, r1, r2, r3, r4⟩ := hrun
  refine ⟨C', lam', ms, a', cs', w', _, u, r1, r2, r3.1, ?_, ?_, r3.2.2.2⟩
  · refine r3.2.1.toE (G := junkAll ops.toList F') ?_ fun t => ?_
    · exact junkAll_same _ _
    · rw [junkAll_get]
      by_cases h : ops.toList.any (fun o => o.dst == some t) = true
      · exact .inl (by rw [h]; rfl)
      · refine .inr ?_
        rw [if_neg h]
        have none : ∀ z, wrB ops t z = false := fun z => by
          cases hw : wrB ops t z with
          | false => rfl
          | true =>
            exfalso
            unfold wrB at hw
            split at hw
            · rename_i x hx
              rw [← Array.getElem?_toList] at hx
              exact h (List.any_eq_true.2 ⟨x, List.mem_of_getElem? hx, hw⟩)
            · cases hw
        have env0 : ∀ L : List Nat, envAt ops F0 ts L t = F0.e.get t := fun L => by
          unfold envAt
          have : L.filter (wrB ops t) = [] := List.filter_eq_nil_iff.2 fun z _ hz => by rw [none z] at hz; cases hz
          rw [this]
          rfl
        have h1 : F'.e = FA.e := by
          unfold stepOp at hst'
          split at hst'
          · cases hst'
          · split at hst'
            · split at hst'
              · split at hst'
                · cases hst'
                · rename_i r hne
                  have key : ∀ {d : Option Tmp} {op : Op}, efV X cl rd FA d op = .pan v F' → F'.e = FA.e := fun {d op} h => by
                    cases op <;> simp only [efV] at h <;> first | (cases h; done) | skip
                    case alloc t => unfold Fr.allocE at h; split at h; exact (okO_pan h).elim; cases h
                    case box t x => unfold Fr.boxE at h; split at h; exact (okO_pan h).elim; cases h
                    case store t p x => unfold Fr.storeE at h; (repeat' split at h) <;> cases h
                    case buildSlice t n ps => unfold Fr.rowE at h; (repeat' split at h) <;> cases h
                    case makeMap t r => unfold Fr.mapE at h; (repeat' split at h) <;> cases h
                    case makeSlice t l c => unfold Fr.makeSliceE at h; (repeat' split at h) <;> cases h
                    case mapUpdate t m k x => unfold Fr.mapUpdateE at h; (repeat' split at h) <;> cases h
                    case range t x => unfold Fr.rangeE at h; (repeat' split at h) <;> cases h
                    case next x st => unfold Fr.nextE at h; (repeat' split at h) <;> cases h
                    case defer c => unfold Fr.deferE at h; (repeat' split at h) <;> cases h
                    case panic x => unfold Fr.panicE at h; (repeat' split at h) <;> cases h; rfl
                    case call c =>
                      have out : ∀ {r : COut}, outOf FA r = .pan v F' → F'.e = FA.e := fun {r} h => by cases r <;> simp [outOf] at h; obtain ⟨_, rfl⟩ := h; rfl
                      unfold Fr.callOp at h
                      split at h
                      · unfold Fr.callE at h
                        split at h
                        · exact out h
                        · cases h
                      · unfold Fr.invokeE at h
                        split at h
                        · split at h
                          · exact out h
                          · cases h
                        · cases h
                      · unfold Fr.builtinE at h
                        split at h
                        · unfold Fr.appendE at h
                          (repeat' split at h) <;> first | (cases h; done) | exact (okO_pan h).elim
                        · split at h
                          · unfold Fr.panicE at h; (repeat' split at h) <;> cases h; rfl
                          · cases h
                        · split at h
                          · unfold Fr.recoverE at h; (repeat' split at h) <;> cases h
                          · cases h
                        · cases h
                  exact key hst'
              · split at hst' <;> cases hst'
            · cases hst'
        show F'.e.get t = F.e.get t
        rw [h1, hA.env, m.at_.env, env0, env0]
  · have : (junkAll ops.toList F').hp = F'.hp := by rw [junkAll_same]
    rw [this]
    exact r3.2.2.1
theorem draw_go (hP : NoNum X.P) (hcl : ClOK X.P cl) (hrd : RdOK X.P rd) (g : Reg X cl rd ops F0 ts AA BB) {out : Out} (hgoal : Goal X cl rd ops F0 ts AA BB out) :
    ∀ (n t : Nat) (listed : Array Bool) (C : Cfg) (lam : Nat → Option Nat) (F : Fr) (a : Act) (w : World) (cs : List Frame), listed.size = ops.size → unlisted ops.size listed ≤ n → Closed ops (listedD listed) → (∀ z, listedD listed z = true → z ∈ AA) →
      Mid X ops F0 ts (listedD listed) C lam ms F b a w cs → dstsLt a.tmps.size ops.toList = true →
      Outs X.P (lone (b.atR a (.inRegion ops (Region.linearise.go .any ops n t listed []) :: k)) cs w) C lam ms F b a w cs k out := by
  have fin : ∀ (listed : Array Bool) (C : Cfg) (lam : Nat → Option Nat) (F : Fr) (a : Act) (w : World) (cs : List Frame), (∀ i, i < ops.size → listedD listed i = true) → (∀ z, listedD listed z = true → z ∈ AA) →
      Mid X ops F0 ts (listedD listed) C lam ms F b a w cs → Outs X.P (lone (b.atR a (.inRegion ops [] :: k)) cs w) C lam ms F b a w cs k out := by
    intro listed C lam F a w cs hall hD m
    cases hgoal with
    | norm hB hAt =>
      subst hB
      obtain ⟨q1, q2⟩ := mid_end g hall m hAt
      exact ⟨C, lam, ms, a, cs, w, .one stepR_region_end, rfl, q1, by rw [q2]; exact .refl _ _ _ _, .refl b cs⟩
    | pan hB ho hst hAt hfa hw =>
      rename_i i B o FA F' v
      exfalso
      have hi : i ∈ canon ops := by rw [g.all, hB]; simp
      have h1 := hD i (hall i (canon_mem.1 hi))
      have hn := canon_nodup (ops := ops)
      rw [g.all, hB, List.nodup_append] at hn
      exact hn.2.2 i h1 i (by simp) rfl
  intro n
  induction n with
  | zero =>
    intro t listed C lam F a w cs hs hn hc hD m hdst
    simp only [Region.linearise.go, List.reverse_nil]
    refine fin listed C lam F a w cs (fun i hi => ?_) hD m
    cases hd : listedD listed i with
    | true => rfl
    | false =>
      exfalso
      have : i ∈ (List.range ops.size).filter fun i => !listed.getD i true := List.mem_filter.2 ⟨List.mem_range.2 hi, by rw [getD_out (by omega) true false]; show (!listedD listed i) = true; rw [hd]; rfl⟩
      have hl : ((List.range ops.size).filter fun i => !listed.getD i true) = [] := List.eq_nil_of_length_eq_zero (Nat.le_zero.1 hn)
      rw [hl] at this
      simp at this
  | succ n ih =>
    intro t listed C lam F a w cs hs hn hc hD m hdst
    simp only [Region.linearise.go]
    change Outs X.P (lone (b.atR a (.inRegion ops (match (Region.ready .any ops listed)[t % (Region.ready .any ops listed).length]? with
      | some i => Region.linearise.go .any ops n (t / (Region.ready .any ops listed).length) (listed.setIfInBounds i true) [i]
      | none => [].reverse) :: k)) cs w) C lam ms F b a w cs k out
    cases hi : (Region.ready .any ops listed)[t % (Region.ready .any ops listed).length]? with
    | none =>
      have hnil : Region.ready .any ops listed = [] := by
        cases hr : Region.ready .any ops listed with
        | nil => rfl
        | cons x xs =>
          rw [hr] at hi
          have hlt : t % (x :: xs).length < (x :: xs).length := Nat.mod_lt _ (by simp)
          simp at hi
          simp at hlt
          omega
      exact fin listed C lam F a w cs (none_ready g.ok hs hnil) hD m
    | some i =>
      obtain ⟨h1, h2, h3⟩ := ready_of hs (List.mem_of_getElem? hi)
      simp only []
      rw [linearise_go_acc, List.reverse_singleton, List.singleton_append]
      have hdsti : ∀ o, ops[i]? = some o → ∀ t, o.dst = some t → t < a.tmps.size := fun o ho t ht => by
        unfold dstsLt at hdst
        rw [← Array.getElem?_toList] at ho
        have := List.all_eq_true.1 hdst o (List.mem_of_getElem? ho)
        rw [ht] at this
        simpa using this
      have hmem : i ∈ canon ops := canon_mem.2 h1
      rw [g.all] at hmem
      by_cases hAA : i ∈ AA
      · obtain ⟨A, B', o, FA, FB, eA, hS⟩ := g.trace hAA
        obtain ⟨C', lam', a', cs', w', F', q1, q2, q3⟩ := mid_step (k := k) (rest := Region.linearise.go .any ops n (t / (Region.ready .any ops listed).length) (listed.setIfInBounds i true) []) hP hcl hrd g hc h3 hD eA hS m (hdsti o hS.op)
        rw [← listed_add (by omega)] at q3
        refine Outs.head q1 q2 (ih _ _ C' lam' F' a' w' cs' (by simp [hs]) ?_ ?_ ?_ q3 (by rw [q2.1]; exact hdst))
        · have := unlisted_less (by omega) h2
          rw [hs] at this
          omega
        · rw [listed_add (by omega)]; exact hc.add h3
        · rw [listed_add (by omega)]
          intro z hz
          simp only [addD, Bool.or_eq_true, beq_iff_eq] at hz
          rcases hz with rfl | hz
          · exact hAA
          · exact hD z hz
      ·
        have hBB : i ∈ BB := by
          rcases List.mem_append.1 hmem with h | h
          · exact absurd h hAA
          · exact h
        cases hgoal with
        | norm hB hAt => rw [hB] at hBB; simp at hBB
        | pan hB ho hst hAt hfa hw =>
          rename_i i' B o FA F' v
          have hii : i = i' := by
            rw [hB] at hBB
            rcases List.mem_cons.1 hBB with h | h
            · exact h
            · exfalso
              have h4 := h3.waits hc (hw i h)
              have h5 := hD _ h4
              have hn' := canon_nodup (ops := ops)
              rw [g.all, hB, List.nodup_append] at hn'
              exact hn'.2.2 i' h5 i' (by simp) rfl
          subst hii
          exact mid_pan hP hcl hrd g.ok hc h3 (by rw [g.all, hB]) ho hst hAt hfa m (hdsti o ho)
theorem St.drawn (s : St C lam ms F b a w cs) : St C lam ms F b a { w with drawn := w.drawn + 1 } cs ∧ Ext C F.hp (Own lam ms) w C F.hp (Own lam ms) { w with drawn := w.drawn + 1 } :=
  ⟨{ wr := ⟨s.wr.sig, s.wr.blk, s.wr.inj, s.wr.apart, s.wr.fresh, s.wr.base⟩, env := s.env, box := s.box, inj := s.inj, mark := s.mark, nodup := s.nodup, live := s.live, osig := s.osig, df := s.df, up := s.up, fn := s.fn, rnd := s.rnd },
   ⟨.refl C, rfl, rfl, rfl, Nat.le_refl _, fun _ _ _ _ => rfl, fun _ _ l => .inl l, fun _ _ o => .inr o, fun _ _ _ s => .inl s, Nat.le_refl _⟩⟩
end
theorem draw_ok {X : Ctx} (hP : NoNum X.P) (hm : X.P.follows .mixedOrders = true) : DrawOK X := by
  intro cl rd hcl hrd id ops F C lam ms b a w cs k s hdst
  rw [runDraw_eq]
  split
  · trivial
  · rename_i hok
    have hok : drawOk X F.f ops = true := by simpa using hok
    split
    · trivial
    · rename_i F0 hprep
      obtain ⟨sd, xd⟩ := s.drawn
      obtain ⟨lam0, s0, x0, hnone, hal0, he0, hf0⟩ := prepAll_ok _ _ _ _ sd hprep
      have hstep := stepR_region_draw (P := X.P) (b := b) (a := a) (k := k) (cs := cs) (w := w) (ops := ops) (id := id)
      have hfin0 : Fin C lam ms F b a w cs F0 C lam0 ms a cs { w with drawn := w.drawn + 1 } := ⟨rfl, s0, xd.trans x0, .refl b cs⟩
      have hsched : ∀ t, Region.schedule (X.P.follows .mixedOrders) ops t = Region.linearise.go .any ops ops.size t (Array.replicate ops.size false) [] := fun t => by
        simp only [Region.schedule, hm, Bool.true_or, if_true]
        rfl
      rw [hsched] at hstep
      have hok0 : drawOk X F0.f ops = true := by rw [hf0]; exact hok
      have hlaid : ∀ o s t, o ∈ ops.toList → o.op = .alloc t → o.dst = some s → ∃ z g, zeroT X.P t = some z ∧ isTuple z = false ∧ F0.lm.get s = some (g, z.cells) := fun o s t ho h1 h2 => by
        refine prepAll_get _ _ _ s t hprep (fun o' ho' t' h1' h2' => ?_) ⟨o, ho, h1, h2⟩
        obtain ⟨i, hi⟩ := List.mem_iff_getElem?.1 ho
        obtain ⟨j, hj⟩ := List.mem_iff_getElem?.1 ho'
        rw [Array.getElem?_toList] at hi hj
        have := alloc_one hok0 hi hj (by unfold isAlloc; rw [h1]) (by unfold isAlloc; rw [h1']) h2 h2'
        subst this
        rw [hi] at hj
        cases hj
        rw [h1] at h1'
        cases h1'
        rfl
      have hemp : ∀ z, listedD (Array.replicate ops.size false) z = false := fun z => by
        unfold listedD
        simp only [Array.getD_eq_getD_getElem?, Array.getElem?_replicate]
        split <;> rfl
      have hmid : ∀ ts, Mid X ops F0 ts (listedD (Array.replicate ops.size false)) C lam0 ms F0 b a { w with drawn := w.drawn + 1 } cs := fun ts => by
        have : (canon ops).filter (listedD (Array.replicate ops.size false)) = [] := List.filter_eq_nil_iff.2 fun z _ hz => by rw [hemp z] at hz; cases hz
        refine { st := s0, at_ := by rw [this]; exact .start, al := fun j o s hj haj _ hs => ⟨hal0 o (by rw [← Array.getElem?_toList] at hj; exact List.mem_of_getElem? hj) haj s hs, rfl⟩, fn := rfl }
      have run : ∀ ts AA BB out, Reg X cl rd ops F0 ts AA BB → Goal X cl rd ops F0 ts AA BB out → Outs X.P (lone (b.atR a (.code (.region id ops true) :: k)) cs w) C lam ms F b a w cs k out := fun ts AA BB out g hg => by
        refine Outs.head (.one hstep) hfin0 (draw_go hP hcl hrd g hg _ _ _ C lam0 F0 a _ cs (by simp) ?_ (fun j o hj => ?_) (fun z hz => ?_) (hmid ts) hdst)
        · unfold unlisted
          have := List.length_filter_le (fun i => !(Array.replicate ops.size false).getD i true) (List.range ops.size)
          simpa using this
        · rw [hemp j] at hj; cases hj
        · rw [hemp z] at hz; cases hz
      split
      · rename_i F' ts hrun
        split
        · rename_i hcalm
          obtain ⟨q1, q2⟩ := runD_norm (F0 := F0) (ts := ts) _ [] F0 F' ts canon_nodup (fun _ _ => rfl) .start rfl hrun
          refine run ts (canon ops) [] _ ⟨hok0, fun p hp => ?_, q2, by simp, hlaid⟩ (.norm rfl (by simpa using q1))
          rw [hf0] at hp ⊢
          exact List.all_eq_true.1 hcalm p hp
        · trivial
      · rename_i i v F' ts hrun
        split
        · rename_i hcalm
          simp only [Bool.and_eq_true] at hcalm
          obtain ⟨A, B, o, FA, q1, q2, q3, q4, q5, q6, q7⟩ := runD_pan (F0 := F0) (ts := ts) _ [] F0 F' i v ts canon_nodup (fun _ _ => rfl) .start rfl hrun
          refine run ts A (i :: B) _ ⟨hok0, fun p hp => ?_, q6, q1, hlaid⟩ (.pan rfl q2 q3 (by simpa using q4) q5 fun j hj => ?_)
          · rw [hf0] at hp ⊢
            exact List.all_eq_true.1 hcalm.1 p hp
          · have hn := canon_nodup (ops := ops)
            have := List.all_eq_true.1 hcalm.2 j (by rw [q1]; simp [hj])
            simp only [Bool.or_eq_true, beq_iff_eq] at this
            rw [q1, List.nodup_append] at hn
            rcases this with (rfl | h) | h
            · exact absurd hj (List.nodup_cons.1 hn.2.1).1
            · exact h
            · exact absurd rfl (hn.2.2 j (q7 j h) j (by simp [hj]))
        · trivial
      · trivial
theorem ev_sound {X : Ctx} (hP : NoNum X.P) (hI : IntrOK X) (hm : X.P.follows .mixedOrders = true) (n : Nat) : CodeOK X.P (ev X n) := (ev_ok hP hI (draw_ok hP hm) n).1
end Go.AM
namespace Go.AM
open Go
variable [Keep]
mutual
def AV.pur : AV → Bool
  | .junk | .ptr _ _ | .eptr _ _ _ _ | .lptr _ _ _ | .row _ _ _ | .map _ | .yield _ => false
  | .vptr l | .vslice l | .agg l | .tuple l => AV.purL l
  | .func _ a b => AV.purL a && AV.purL b
  | .iface _ v => AV.pur v
  | _ => true
def AV.purL : List AV → Bool
  | [] => true
  | a :: l => AV.pur a && AV.purL l
end
mutual
def AV.flat : AV → Bool
  | .bool _ | .int _ _ | .str _ | .nilptr | .nilslice | .nilmap | .nilfunc | .niliface => true
  | .agg l | .tuple l => AV.flatL l
  | .iface _ v => AV.flat v
  | _ => false
def AV.flatL : List AV → Bool
  | [] => true
  | a :: l => AV.flat a && AV.flatL l
end
theorem purL_mem : ∀ {l : List AV}, AV.purL l = true ↔ ∀ a ∈ l, a.pur = true := by
  intro l
  induction l with
  | nil => simp [AV.purL]
  | cons a l ih => simp [AV.purL, ih]
theorem flatL_mem : ∀ {l : List AV}, AV.flatL l = true ↔ ∀ a ∈ l, a.flat = true := by
  intro l
  induction l with
  | nil => simp [AV.flatL]
  | cons a l ih => simp [AV.flatL, ih]
theorem pur_getD {l : List AV} (h : AV.purL l = true) {i : Nat} (hi : i < l.length) : (l.getD i .junk).pur = true := by
  have := purL_mem.1 h (l.getD i .junk) (by simp [List.getD, hi])
  exact this
theorem flat_getD {l : List AV} (h : AV.flatL l = true) {i : Nat} (hi : i < l.length) : (l.getD i .junk).flat = true := by
  have := flatL_mem.1 h (l.getD i .junk) (by simp [List.getD, hi])
  exact this
theorem pur_cells {a : AV} (h : a.pur = true) {j : Nat} (hj : j < a.cells.length) : (a.cells.getD j .junk).pur = true := by
  cases a <;> first | (simp only [AV.cells] at hj ⊢; simp only [AV.pur] at h; exact pur_getD h hj) | (simp [AV.cells] at hj ⊢; subst hj; simpa using h)
theorem VR.pur {C D : Cfg} {a : AV} {v : Value} (r : VR C a v) (hs : ∀ x u, C.sig x = some u → D.sig x = some u) (h : a.pur = true) : VR D a v := by
  induction r with
  | bool b => exact .bool b
  | int k n => exact .int k n
  | str s => exact .str s
  | nilptr => exact .nilptr
  | ptr e => simp [AV.pur] at h
  | eptr e => simp [AV.pur] at h
  | vptr vs h1 _ h3 ih => simp only [AV.pur] at h; exact .vptr vs (fun k hk => hs _ _ (h1 k hk)) (fun k hk => ih k hk (pur_getD h hk)) h3
  | nilslice => exact .nilslice
  | vslice vs h1 h2 h3 _ h5 ih =>
    simp only [AV.pur] at h
    refine .vslice vs h1 h2 (fun i j hi hj => hs _ _ (h3 i j hi hj)) (fun i j hi hj => ih i j hi hj (pur_cells (pur_getD h hi) ?_)) h5
    rw [h2 _ (by simp [List.getD, hi])]
    exact hj
  | vslice0 a cap => exact .vslice0 a cap
  | vempty a => exact .vempty a
  | row a h1 h2 h3 h4 => simp [AV.pur] at h
  | nilmap => exact .nilmap
  | map e => simp [AV.pur] at h
  | func h1 _ h3 _ ih1 ih2 =>
    simp only [AV.pur, Bool.and_eq_true] at h
    exact .func h1 (fun i hi => ih1 i hi (pur_getD h.1 hi)) h3 (fun i hi => ih2 i hi (pur_getD h.2 hi))
  | yield e => simp [AV.pur] at h
  | nilfunc => exact .nilfunc
  | niliface => exact .niliface
  | iface _ ih => simp only [AV.pur] at h; exact .iface (ih h)
  | agg h1 _ h3 ih => simp only [AV.pur] at h; exact .agg h1 (fun i hi => ih i hi (pur_getD h hi)) h3
  | tuple h1 _ ih => simp only [AV.pur] at h; exact .tuple h1 (fun i hi => ih i hi (pur_getD h hi))
theorem VR.flat {C D : Cfg} {a : AV} {v : Value} (r : VR C a v) (h : a.flat = true) : VR D a v := by
  induction r with
  | bool b => exact .bool b
  | int k n => exact .int k n
  | str s => exact .str s
  | nilptr => exact .nilptr
  | nilslice => exact .nilslice
  | nilmap => exact .nilmap
  | nilfunc => exact .nilfunc
  | niliface => exact .niliface
  | iface _ ih => simp only [AV.flat] at h; exact .iface (ih h)
  | agg h1 _ h3 ih => simp only [AV.flat] at h; exact .agg h1 (fun i hi => ih i hi (flat_getD h hi)) h3
  | tuple h1 _ ih => simp only [AV.flat] at h; exact .tuple h1 (fun i hi => ih i hi (flat_getD h hi))
  | _ => simp [AV.flat] at h
theorem VRs.pur {C D : Cfg} {l : List AV} {vs : Array Value} (r : VRs C l vs) (hs : ∀ x u, C.sig x = some u → D.sig x = some u) (h : ∀ a ∈ l, a.pur = true) : VRs D l vs :=
  ⟨r.1, fun i hi => (r.2 i hi).pur hs (pur_getD (purL_mem.2 h) hi)⟩
def emptyHp : Heap := ⟨0, .nil⟩
def IntrFn (P : Program) (f : FuncId) (g : List AV → Heap → Option (AV × Heap)) : Prop := ∀ (args : List AV) (h : Heap) (v : AV) (h' : Heap), g args h = some (v, h') →
  ∀ (C : Cfg) (w : World) (vs : Array Value), WR C h w → VRs C args vs → (∃ fn, P.funcs[f]? = some fn ∧ fn.body.isSome = true) ∧ ∀ cs, Left P f C h w (lone (Frame.enter P f vs .normal) cs w) cs (.ret v h' none)
structure Sound (X : Ctx) : Prop where
  num : NoNum X.P
  mix : X.P.follows .mixedOrders = true
  intr : IntrOK X
theorem Sound.call {X : Ctx} (s : Sound X) (n : Nat) : CallOK X.P (callF X (ev X n)) := callF_ok (ev_sound s.num s.intr s.mix n) s.num s.intr
def Cl (X : Ctx) (f : FuncId) (args : List AV) (h : Heap) (r : COut) : Prop := ∃ n, ∀ m, n ≤ m → callF X (ev X m) f args h = r
def pureFn (spec : List AV → Option AV) : List AV → Heap → Option (AV × Heap) := fun args h => if AV.purL args then (match spec args with | some v => some (v, h) | none => none) else none
section
variable {C : Cfg} {h : Heap} {w : World}
theorem WR.bare (r : WR C h w) : WR ⟨fun _ => none, C.sig⟩ emptyHp w :=
  ⟨r.sig, fun id blk e => by simp [emptyHp, Heap.get] at e, fun id id' blk blk' L L' e => by simp [emptyHp, Heap.get] at e, fun id blk L x v e => by simp [emptyHp, Heap.get] at e, fun id L e => (by cases e), r.base⟩
theorem emptyHp_live {C : Cfg} {b : Nat} : ¬ Live C emptyHp b := by
  rintro ⟨id, blk, L, e, _⟩
  simp [emptyHp, Heap.get] at e
theorem pure_intr {X : Ctx} (s : Sound X) {f : FuncId} {spec : List AV → Option AV} (hp : ∀ args v, spec args = some v → v.pur = true) (hr : ∀ args v, spec args = some v → ∃ h', Cl X f args emptyHp (.ret v h' none)) : IntrFn X.P f (pureFn spec) := by
  intro args h v h' hg C w vs r hv
  unfold pureFn at hg
  split at hg
  · rename_i hpur
    split at hg
    · rename_i u hsp
      cases hg
      obtain ⟨h1, n, hn⟩ := hr args v hsp
      have hcall := hn n (Nat.le_refl _)
      have hok := s.call n f args emptyHp ⟨fun _ => none, C.sig⟩ w vs r.bare (hv.pur (fun _ _ h => h) (purL_mem.1 hpur)) (by rw [hcall]; intro e; cases e)
      refine ⟨hok.1, fun cs => ?_⟩
      have := hok.2 cs
      rw [hcall] at this
      obtain ⟨C', w', fr, u, q1, q2, q3, q4, q5, q6⟩ := this
      have hle : C.le ⟨C.mu, C'.sig⟩ := ⟨fun _ _ h => h, q6.le.sig⟩
      have hsame : ∀ β, β < w.heap.size → w'.heap[β]? = w.heap[β]? := fun β hb => q6.same β hb emptyHp_live id
      have hsig : ∀ x u, x.block < w.heap.size → C'.sig x = some u → C.sig x = some u := fun x u hb e => by
        rcases q6.sig x u hb e with h | h | h
        · exact h
        · exact (emptyHp_live h).elim
        · exact h.elim
      refine ⟨⟨C.mu, C'.sig⟩, w', fr, u, q1, q2, q3, q4.pur (fun _ _ h => h) (hp _ _ hsp), ⟨q5.sig, fun id blk e => ?_, r.inj, fun id blk L x u e1 e2 e3 e4 => ?_, r.fresh, q5.base⟩, ?_⟩
      · obtain ⟨L, k1, k2⟩ := r.blk id blk e
        exact ⟨L, k1, k2.same hle (hsame _ k2.lt)⟩
      · obtain ⟨L', k1, k2⟩ := r.blk id blk e1
        rw [e2] at k1
        cases k1
        have := k2.lt
        exact r.apart id blk L x u e1 e2 (hsig x u (by rw [e4]; exact this) e3) e4
      · exact { le := hle, os := q6.os, tape := q6.tape, output := q6.output, size := q6.size, same := fun β hb _ _ => hsame β hb, live := fun β hb l => .inl (by
                  obtain ⟨id, blk, L, e1, e2, e3⟩ := l
                  exact ⟨id, blk, L, e1, e2, e3⟩)
                own := fun _ _ o => o.elim, sig := fun x u hb e => .inl (hsig x u hb e), next := Nat.le_refl _ }
    · cases hg
  · cases hg
def viewV (h : Heap) (a : AV) : Option AV :=
  match a with
  | .row id off len => (match h.get id with
    | some (.rw _ el) => if off + len ≤ el.length then (if AV.purL ((el.drop off).take len) then some (.vslice ((el.drop off).take len)) else none) else none
    | _ => none)
  | a => if a.pur then some a else none
def viewVs (h : Heap) : List AV → Option (List AV)
  | [] => some []
  | a :: r => match viewV h a, viewVs h r with
    | some x, some l => some (x :: l)
    | _, _ => none
def flatFn (spec : List AV → Option AV) : List AV → Heap → Option (AV × Heap) := fun args h => match viewVs h args with
  | some l => (match spec l with | some v => some (v, h) | none => none)
  | none => none
theorem viewV_ok (r : WR C h w) {a a' : AV} {v : Value} (hv : VR C a v) (e : viewV h a = some a') : a'.pur = true ∧ VR ⟨fun _ => none, w.cell?⟩ a' v := by
  have plain : a.pur = true → VR ⟨fun _ => none, w.cell?⟩ a v := fun hp => hv.pur (fun x u h => r.sig x u h) hp
  unfold viewV at e
  split at e
  · rename_i id off len
    split at e
    · rename_i sz el hb
      split at e
      · rename_i hle
        split at e
        · rename_i hp
          cases e
          refine ⟨by simpa [AV.pur] using hp, ?_⟩
          have hlen : ((el.drop off).take len).length = len := by simp; omega
          obtain ⟨L, k1, c, k2, k3, k4, k5, k6⟩ := r.blk id _ hb
          cases hv with
          | row a h1 h2 h3 h4 =>
            rename_i cap L'
            rw [k1] at h1
            cases h1
            rcases h3 with rfl | rfl
            · obtain rfl : len = 0 := by omega
              have : (el.drop off).take 0 = [] := by simp
              rw [this]
              exact .vslice0 _ _
            · have get : ∀ i, i < len → ∃ x, el[off + i]? = some x ∧ ((el.drop off).take len).getD i .junk = x := fun i hi => by
                have hlt : off + i < el.length := by omega
                refine ⟨el[off + i], by simp [hlt], ?_⟩
                have hd : i < el.length - off := by omega
                simp [List.getD, List.getElem?_take, hi, List.getElem?_drop, hlt]
              have cell : ∀ i j x, el[off + i]? = some x → j < sz → ∃ u, c[L.o + (off + i) * sz + j]? = some u ∧ VR C (x.cells.getD j .junk) u := fun i j x hx hj => by
                obtain ⟨q1, q2, q3⟩ := k6 (off + i) x hx
                obtain ⟨u, q4, q5⟩ := q3 j (x.cells.getD j .junk) (by simp [List.getD, q1, hj])
                exact ⟨u, q4, q5⟩
              have := VR.vslice (C := ⟨fun _ => none, w.cell?⟩) (l := (el.drop off).take len) (sz := sz) (b := L.b) (o := L.o + off * sz) (cap := cap) (fun i j => c.getD (L.o + (off + i) * sz + j) undef) (by omega) (fun e he => ?_) (fun i j hi hj => ?_) (fun i j hi hj => ?_) (fun e he => ?_)
              · rw [hlen] at this
                rw [k3]
                exact this
              · have : e ∈ el := List.mem_of_mem_drop (List.mem_of_mem_take he)
                obtain ⟨i, hi⟩ := List.mem_iff_getElem?.1 this
                exact (k6 i e hi).1
              · rw [hlen] at hi
                obtain ⟨x, hx, _⟩ := get i hi
                obtain ⟨u, q1, q2⟩ := cell i j x hx hj
                show w.cell? _ = _
                rw [k2.cell]
                have : L.o + off * sz + i * sz + j = L.o + (off + i) * sz + j := by rw [Nat.add_mul]; omega
                rw [this, q1]
                simp [Array.getD_eq_getD_getElem?, q1]
              · rw [hlen] at hi
                obtain ⟨x, hx, hx'⟩ := get i hi
                obtain ⟨u, q1, q2⟩ := cell i j x hx hj
                rw [hx']
                have : c.getD (L.o + (off + i) * sz + j) undef = u := by simp [Array.getD_eq_getD_getElem?, q1]
                show VR _ _ (c.getD (L.o + (off + i) * sz + j) undef)
                rw [this]
                have hx1 : x.pur = true := by
                  have := pur_getD hp (i := i) (by rw [hlen]; exact hi)
                  rw [hx'] at this
                  exact this
                obtain ⟨p1, _, _⟩ := k6 (off + i) x hx
                exact q2.pur (fun x u h => r.sig x u h) (pur_cells hx1 (by omega))
              · have : e ∈ el := List.mem_of_mem_drop (List.mem_of_mem_take he)
                obtain ⟨i, hi⟩ := List.mem_iff_getElem?.1 this
                exact (k6 i e hi).2.1
        · cases e
      · cases e
    · cases e
  · split at e
    · rename_i hp
      cases e
      exact ⟨hp, plain hp⟩
    · cases e
theorem viewVs_ok (r : WR C h w) : ∀ {l l' : List AV} {vs : Array Value}, VRs C l vs → viewVs h l = some l' → (∀ a ∈ l', a.pur = true) ∧ VRs ⟨fun _ => none, w.cell?⟩ l' vs := by
  intro l
  induction l with
  | nil =>
    intro l' vs hv e
    simp only [viewVs, Option.some.injEq] at e
    subst e
    exact ⟨by simp, hv.1, fun i hi => by simp at hi⟩
  | cons a l ih =>
    intro l' vs hv e
    simp only [viewVs] at e
    split at e
    · rename_i x l1 hx hl
      cases e
      have h0 : VR C a (vs.getD 0 undef) := by simpa using hv.2 0 (by simp)
      obtain ⟨p1, p2⟩ := viewV_ok r h0 hx
      have hsz : vs.size = l.length + 1 := by have := hv.1; simpa using this
      have ht : VRs C l (vs.extract 1 vs.size) := by
        refine ⟨by simp [hsz], fun i hi => ?_⟩
        have := hv.2 (i + 1) (by simp; omega)
        have e2 : (vs.extract 1 vs.size).getD i undef = vs.getD (i + 1) undef := by
          simp only [Array.getD_eq_getD_getElem?]
          rw [Array.getElem?_extract]
          have : i < vs.size - 1 := by omega
          simp [this, Nat.add_comm]
        rw [e2]
        simpa using this
      obtain ⟨q1, q2⟩ := ih ht hl
      refine ⟨by simpa [p1] using q1, ?_⟩
      have := VRs.cons p2 q2
      have e3 : #[vs.getD 0 undef] ++ vs.extract 1 vs.size = vs := by
        apply Array.ext_getElem?
        intro i
        cases i with
        | zero =>
          have : 0 < vs.size := by omega
          simp [Array.getElem?_append, Array.getD_eq_getD_getElem?, this]
        | succ i =>
          rw [Array.getElem?_append_right (by simp)]
          simp only [List.size_toArray, List.length_cons, List.length_nil, Nat.zero_add, Nat.add_sub_cancel, Array.getElem?_extract]
          by_cases hi : i < vs.size - 1
          · simp [hi, Nat.add_comm]
          · have : vs.size ≤ i + 1 := by omega
            simp [hi, this]
      rw [e3] at this
      exact this
    · cases e
theorem flat_intr {X : Ctx} (s : Sound X) {f : FuncId} {spec : List AV → Option AV} (hp : ∀ args v, spec args = some v → v.flat = true) (hr : ∀ args v, spec args = some v → ∃ h', Cl X f args emptyHp (.ret v h' none)) : IntrFn X.P f (flatFn spec) := by
  intro args h v h' hg C w vs r hv
  unfold flatFn at hg
  split at hg
  · rename_i l hl
    split at hg
    · rename_i u hsp
      cases hg
      obtain ⟨h1, n, hn⟩ := hr l v hsp
      have hcall := hn n (Nat.le_refl _)
      obtain ⟨p1, p2⟩ := viewVs_ok r hv hl
      have hok := s.call n f l emptyHp ⟨fun _ => none, w.cell?⟩ w vs ⟨fun _ _ h => h, fun id blk e => by simp [emptyHp, Heap.get] at e, fun id id' blk blk' L L' e => by simp [emptyHp, Heap.get] at e, fun id blk L x v e => by simp [emptyHp, Heap.get] at e, fun id L e => (by cases e), r.base.on r.sig (fun _ _ _ => rfl)⟩ p2 (by rw [hcall]; intro e; cases e)
      refine ⟨hok.1, fun cs => ?_⟩
      have := hok.2 cs
      rw [hcall] at this
      obtain ⟨C', w', fr, u, q1, q2, q3, q4, q5, q6⟩ := this
      have hsame : ∀ β, β < w.heap.size → w'.heap[β]? = w.heap[β]? := fun β hb => q6.same β hb emptyHp_live id
      refine ⟨C, w', fr, u, q1, q2, q3, q4.flat (hp _ _ hsp), ⟨fun x u e => ?_, fun id blk e => ?_, r.inj, r.apart, r.fresh, r.base.on (fun _ _ e => e) (fun x v e => hsame _ (WR.sig_lt (F := Fr.mk 0 false .nil .nil h [] none) r e))⟩, ?_⟩
      · have h1 := r.sig x u e
        have hb := WR.sig_lt (F := Fr.mk 0 false .nil .nil h [] none) r e
        unfold World.cell? at h1 ⊢
        rw [hsame _ hb]
        exact h1
      · obtain ⟨L, k1, k2⟩ := r.blk id blk e
        exact ⟨L, k1, k2.same (.refl C) (hsame _ k2.lt)⟩
      · exact { le := .refl C, os := q6.os, tape := q6.tape, output := q6.output, size := q6.size, same := fun β hb _ _ => hsame β hb, live := fun β hb l => .inl l,
                own := fun _ _ o => o.elim, sig := fun x u hb e => .inl e, next := Nat.le_refl _ }
    · cases hg
  · cases hg
theorem Sound.calls {X : Ctx} (s : Sound X) {f : FuncId} {args : List AV} {h h' : Heap} {v : AV} (hc : Cl X f args h (.ret v h' none)) {C : Cfg} {w : World} {vs : Array Value} (r : WR C h w) (hv : VRs C args vs) :
    Calls X.P f vs w fun e w' => ∃ C' u, e = .returned u ∧ VR C' v u ∧ WR C' h' w' ∧ Ext C h (fun _ => False) w C' h' (fun _ => False) w' := by
  intro cs
  obtain ⟨n, hn⟩ := hc
  have hcall := hn n (Nat.le_refl _)
  have := (s.call n f args h C w vs r hv (by rw [hcall]; intro e; cases e)).2 cs
  rw [hcall] at this
  obtain ⟨C', w', fr, u, q1, q2, q3, q4, q5, q6⟩ := this
  exact ⟨.returned u, w', fr, ⟨C', u, rfl, q4, q5, q6⟩, q1, q3, q2⟩
end
end Go.AM
