/-
  Texts of the proof: an evaluator of the program's code, its soundness, contracts of functions.
-/
import Derived.Test.YtlhcjccaimmhgaaGreatDoorPAO
import Derived.Test.YtlhcjccaimmhgaaGreatDoorPAF
import Derived.Test.YtlhcjccaimmhgaaGreatDoorPAN
import Derived.Test.YtlhcjccaimmhgaaGreatDoorPAJ
set_option linter.unusedSectionVars false
set_option linter.unusedVariables false
set_option linter.unusedSimpArgs false
namespace Go.AM
open Go
variable [Keep]
def newRes (h : Heap) (sz : Nat) (el rest : List AV) : AV × Heap :=
  if el.isEmpty then (.tuple (.nilslice :: rest), h) else (.tuple (.row h.next 0 el.length :: rest), h.new (.rw sz el))
def newFn (sz : Nat) (spec : List AV → Option (List AV × List AV)) : List AV → Heap → Option (AV × Heap) := fun args h => match viewDs h args with
  | some l => (match spec l with | some (el, rest) => some (newRes h sz el rest) | none => none)
  | none => none
theorem BR.flat {C D : Cfg} {w w' : World} {L : Loc} {sz : Nat} {el : List AV} (h : BR C w L (.rw sz el)) (hf : ∀ e ∈ el, ∀ x ∈ e.cells, x.flat = true) (e : w'.heap[L.b]? = w.heap[L.b]?) : BR D w' L (.rw sz el) := by
  obtain ⟨c, h1, h2, h3, h4, h5⟩ := h
  refine ⟨c, h1.same e, h2, h3, h4, fun i x hx => ?_⟩
  obtain ⟨k1, k2, k3⟩ := h5 i x hx
  refine ⟨k1, k2, fun j y hy => ?_⟩
  obtain ⟨v, hv, hr⟩ := k3 j y hy
  exact ⟨v, hv, hr.flat (hf x (List.mem_of_getElem? hx) y (List.mem_of_getElem? hy))⟩
variable {C : Cfg} {h : Heap} {w : World}
def isNew (sz : Nat) (el rest : List AV) : COut → Prop
  | .ret (.tuple (v :: r)) h none => r = rest ∧ Blt h v sz el
  | _ => False
theorem newRes_is (h : Heap) (sz : Nat) (el rest : List AV) : ∃ v h', newRes h sz el rest = (.tuple (v :: rest), h') ∧ Blt h' v sz el ∧ h.next ≤ h'.next ∧ ∀ id, id < h.next → h'.get id = h.get id := by
  unfold newRes
  cases el with
  | nil => exact ⟨.nilslice, h, rfl, .inl ⟨rfl, rfl⟩, Nat.le_refl _, fun _ _ => rfl⟩
  | cons a r =>
    refine ⟨.row h.next 0 (a :: r).length, h.new (.rw sz (a :: r)), rfl, .inr ⟨h.next, rfl, by rw [Heap.get_new, if_pos rfl], Nat.lt_succ_self _, by simp⟩, Nat.le_succ _, fun id hid => ?_⟩
    rw [Heap.get_new, if_neg (by omega)]
theorem Cl.new {X : Ctx} {f : FuncId} {sz : Nat} {spec : List AV → Option (List AV × List AV)} {args l el rest : List AV} {h : Heap} (hX : X.intr f = some (newFn sz spec)) (hv : viewDs h args = some l) (hs : spec l = some (el, rest)) :
    ∃ v h', Cl X f args h (.ret (.tuple (v :: rest)) h' none) ∧ Blt h' v sz el ∧ h.next ≤ h'.next ∧ ∀ id, id < h.next → h'.get id = h.get id := by
  obtain ⟨v, h', e, hb, hx⟩ := newRes_is h sz el rest
  exact ⟨v, h', Cl.intr hX (by simp [newFn, hv, hs, e]), hb, hx⟩
end Go.AM
set_option linter.unusedSectionVars false
set_option linter.unusedVariables false
set_option linter.unusedSimpArgs false
set_option maxRecDepth 100000
namespace Go.AM
open Go Go.Proofs
variable [Keep]
attribute [local irreducible] W WO WO1 WD WQ WT thenQ blockQ endR isRet retK Cl ClR
attribute [local irreducible] isNew roundQ RdR clR boundsS machB
def canB (cx cy wx wy : Sp) (rs : List Rdg) (n : Nat) (y : Bx) : Bool := (boundsS (ax0 cx wx rs [⟨n, y.x, y.y⟩])).isSome && (boundsS (ax1 cy wy rs [⟨n, y.x, y.y⟩])).isSome
def couldN (p : Nat → Bool) (k : Nat) : List Nat := ((List.range k).filter fun i => p (i + 1)).map (· + 1)
def possB (cx cy wx wy : Sp) (rs : List Rdg) : Bool := (boundsS (ax0 cx wx rs [])).isSome && (boundsS (ax1 cy wy rs [])).isSome
theorem kn_no {A B : Ax} (h : ((boundsS A).isSome && (boundsS B).isSome) = false) : knV A B = .tuple [.agg [.nilslice, .nilslice], .bool false] := by
  cases hA : boundsS A with
  | none => exact knV_no1 hA
  | some a => cases hB : boundsS B with
    | none => exact knV_no2 hB
    | some b => rw [hA, hB] at h; cases h
theorem K103y {X : Ctx} (hX : X.intr 103 = some (onHeap h103)) (sa ra mv : AV) (cx cy wx wy : Sp) (rs : List Rdg) (hr : slV rdgC ra = some rs) (hs : sa.one = true) (hm : mv.one = true) (hlen : rs.length ≤ 1000) (n : Nat) (y : Bx) (h : Heap) :
    Cl X 103 [.agg [sa, .int .i64 cx.lo, .int .i64 cx.hi, .int .i64 cy.lo, .int .i64 cy.hi, .int .i64 wx.lo, .int .i64 wx.hi, .int .i64 wy.lo, .int .i64 wy.hi, ra, mv], .vslice [.agg [.int .i64 n, .int .i64 y.x.lo, .int .i64 y.x.hi, .int .i64 y.y.lo, .int .i64 y.y.hi]]] h (.ret (knV (ax0 cx wx rs [⟨n, y.x, y.y⟩]) (ax1 cy wy rs [⟨n, y.x, y.y⟩])) h none) :=
  Cl.intr hX (by
    have h1 : slV heldC (.vslice [.agg [.int .i64 n, .int .i64 y.x.lo, .int .i64 y.x.hi, .int .i64 y.y.lo, .int .i64 y.y.hi]]) = some [⟨n, y.x, y.y⟩] := rfl
    have h2 : (Nat.ble (rs.length + ([⟨n, y.x, y.y⟩] : List Held).length) maxL && sa.one && mv.one) = true := by
      rw [hs, hm]
      simp [Nat.ble_eq]
      unfold maxL
      omega
    simp only [onHeap, h103, sp103, hr, h1, h2, if_true])
end Go.AM
set_option linter.unusedSimpArgs false
set_option linter.unusedVariables false
set_option linter.unusedSectionVars false
namespace Go.AM
open Go
variable [Keep]
section
variable {X : Ctx} {ops : Array Oper} {K P : AV → Fr → Prop} {F : Fr} {d : Option Tmp} {T : TypeId} {p : String} {af : Array Edge}
theorem WO1.appendK {args : Array Operand} {at_ : Array TypeId} {t u e e' : TypeId} {tl : List TypeId} {sz : Nat} {y : AV} {l : List AV} (hargs : F.opvs args.toList = some [.nilslice, y]) (ht : at_.toList = t :: u :: tl) (hu : X.P.underlying u = some (.slice e'))
    (hel : elemT X.P t = some e) (hs : szT X.P e = sz) (hrow : rowable X.P e = true) (hy : F.hp.elems y = some l) (hsz : ∀ v ∈ l, v.cells.length = sz) (hlen : l.length ≤ most)
    (h : ∀ v' h', BltN F.hp.next h' v' sz l → outV (some v') = some v' → (F.hp.next ≤ h'.next ∧ ∀ id, id < F.hp.next → h'.get id = F.hp.get id) → K v' (({ F with hp := h' } : Fr).put d v')) : WO1 X ops ⟨d, .call ⟨.builtin .append, args, at_⟩, T, p, af, none⟩ F K P := by
  subst hs
  have h1 : (l.all fun v => v.cells.length == szT X.P e) = true := List.all_eq_true.2 fun v hv => by simpa using hsz v hv
  by_cases hl : l = []
  · subst hl
    refine U5 (v := .nilslice) (F' := F) rfl (fun cl rd => ?_) ?_
    · simp only [efV, Fr.callOp, Fr.builtinE, Fr.appendE, ht, hargs, hu]
      have e1 : appendV X.P F t .nilslice [] = some (.nilslice, F) := by simp [appendV, hel, hrow]
      cases y <;> first | (simp only [hy, e1, okO]; done) | simp [Heap.elems] at hy
    · exact h .nilslice F.hp BltN.nil rfl ⟨Nat.le_refl _, fun _ _ => rfl⟩
  · have h2 : ¬ l.length = 0 := by simpa using hl
    have e1 : appendV X.P F t .nilslice l = some (.row F.hp.next 0 l.length, { F with hp := F.hp.new (.rw (szT X.P e) l) }) := by simp [appendV, hel, h1, hrow, hlen, h2, hl]
    refine U5 (v := .row F.hp.next 0 l.length) (F' := { F with hp := F.hp.new (.rw (szT X.P e) l) }) rfl (fun cl rd => ?_) (h _ _ (.inr ⟨F.hp.next, rfl, by rw [Heap.get_new, if_pos rfl], Nat.le_refl _, Nat.lt_succ_self _, hl⟩) rfl ⟨Nat.le_succ _, fun id hid => by rw [Heap.get_new, if_neg (by omega)]⟩)
    simp only [efV, Fr.callOp, Fr.builtinE, Fr.appendE, ht, hargs, hu]
    cases y <;> first | (simp only [hy, e1, okO]; done) | simp [Heap.elems] at hy
end
section
variable {X : Ctx} {f : FuncId} {ops : Array Oper} {ts : List (Nat × Trace)} {i k j : Nat} {r : List (Nat × Nat)} {x y o : Oper} {d : Option Tmp} {op : Op} {T : TypeId} {ps : String} {af : Array Edge} {want b : Bool} {s : Tmp}
    {f1 f2 : FuncId} {r1 r2 : Bool} {e1 e2 : Mp AV} {lm1 lm2 : Mp (Nat × List AV)} {hp1 hp2 : Heap} {df1 df2 : List (AV × List AV)} {up1 up2 : Option (AV × Bool)} {v1 v2 : AV} {a1 a2 b2 : Fr}
theorem calmR (h1 : ops[i]? = some ⟨d, op, T, ps, af, none⟩) (h2 : ops[k]? = some y) (h3 : traceOf ts i = some ⟨Fr.mk f1 r1 e1 lm1 hp1 df1 up1, v1, a1⟩) (h4 : traceOf ts k = some ⟨b2, v2, Fr.mk f2 r2 e2 lm2 hp2 df2 up2⟩)
    (h5 : isEffD X f ⟨d, op, T, ps, af, none⟩ = false) (h7 : rdV X (Fr.mk f1 r1 e1 lm2 hp2 df1 up1) d op = some v1) (h8 : r.all (calmPair X f ops ts) = true) : ((i, k) :: r).all (calmPair X f ops ts) = true := by
  simp only [List.all_cons, h8, Bool.and_true, calmPair, h1, h2, h3, h4, h5, Bool.false_eq_true, if_false, rereads, wantedA, if_true, h7]
  exact AV.same_refl _
theorem calmE (h1 : ops[i]? = some x) (h2 : ops[k]? = some ⟨d, op, T, ps, af, none⟩) (h3 : traceOf ts i = some ⟨Fr.mk f1 r1 e1 lm1 hp1 df1 up1, v1, a1⟩) (h4 : traceOf ts k = some ⟨Fr.mk f2 r2 e2 lm2 hp2 df2 up2, v2, a2⟩)
    (h5 : isEffD X f x = true) (h7 : rdV X (Fr.mk f2 r2 e2 lm1 hp1 df2 up2) d op = some v2) (h8 : r.all (calmPair X f ops ts) = true) : ((i, k) :: r).all (calmPair X f ops ts) = true := by
  simp only [List.all_cons, h8, Bool.and_true, calmPair, h1, h2, h3, h4, h5, if_true, rereads, wantedA, h7]
  exact AV.same_refl _
theorem calmEnd : ([] : List (Nat × Nat)).all (calmPair X f ops ts) = true := rfl
end
end Go.AM
set_option linter.unusedSectionVars false
set_option linter.unusedVariables false
set_option linter.unusedSimpArgs false
set_option maxRecDepth 100000
namespace Go.AM
open Go Go.Proofs
variable [Keep]
attribute [local irreducible] W WO WO1 WD WQ WT thenQ blockQ endR isRet retK Cl ClR
theorem eqg48 : Tryz.prog.eqGuardType Tryz.prog.depth 48 = false := by kernel_rfl
theorem eqh48 : Tryz.prog.stoodInHeld 48 = false := by kernel_rfl
theorem eq48 (a b c d : Int) : binV Tryz.prog .eql 48 false (.agg [.int .i64 a, .int .i64 b]) (.agg [.int .i64 c, .int .i64 d]) = some (.bool (a == c && b == d)) := by
  simp only [binV, eqOp, eqV, eqg48, Bool.false_eq_true, if_false, eqDepth, eqT, Tryz.underlying48, eqh48, eqFields]
  simp [eqFields, readT, ty_lay3, readAt, Tryz.underlying3]
  cases h1 : (a == c) <;> cases h2 : (b == d) <;> simp_all
theorem slLen_mk {a : AV} {es : List AV} (h : isSl a es) : slLen a = some es.length := by rcases h with ⟨rfl | rfl, rfl⟩ | rfl <;> rfl
end Go.AM
set_option linter.unusedSectionVars false
set_option linter.unusedVariables false
set_option linter.unusedSimpArgs false
set_option maxRecDepth 100000
namespace Go.AM
open Go Go.Proofs
variable [Keep]
attribute [local irreducible] W WO WO1 WD WQ WT thenQ blockQ endR isRet retK Cl ClR
attribute [local irreducible] isNew roundQ RdR clR boundsS machB boxL suitB
theorem eqG181 : Tryz.prog.eqGuardType Tryz.prog.depth 181 = false := by kernel_rfl
theorem eqH181 : Tryz.prog.stoodInHeld 181 = false := by kernel_rfl
theorem eq181 (a b c d e a' b' c' d' e' : Int) : binV Tryz.prog .eql 181 false (.agg [.int .i64 a, .int .i64 b, .int .i64 c, .int .i64 d, .int .i64 e]) (.agg [.int .i64 a', .int .i64 b', .int .i64 c', .int .i64 d', .int .i64 e']) = some (.bool (a == a' && (b == b' && c == c') && (d == d' && e == e'))) := by
  simp only [binV, eqOp, eqV, eqG181, Bool.false_eq_true, if_false, eqDepth, eqT, Tryz.underlying181, eqH181, eqFields, Tryz.underlying48, eqh48]
  simp [eqFields, readT, ty_lay3, ty_lay48, readAt, Tryz.underlying3, Tryz.underlying48, eqT]
  cases h1 : (a == a') <;> cases h2 : (b == b') <;> cases h3 : (c == c') <;> cases h4 : (d == d') <;> cases h5 : (e == e') <;> simp_all
def sp120 : List AV → Option AV
  | [la, .agg [.int .i64 _, .int .i64 xl, .int .i64 xh, .int .i64 yl, .int .i64 yh], .int .i64 n] => match slV heldC la with
    | some ms => if decide (ms.length ≤ 1000) = true then some (slN ((ms ++ [Held.mk n ⟨xl, xh⟩ ⟨yl, yh⟩]).map heldC.enc)) else none
    | _ => none
  | _ => none
theorem p120 : ∀ args v, sp120 args = some v → v.pur = true := by
  intro args v h
  unfold sp120 at h
  split at h
  · split at h
    · split at h
      · cases h; exact slN_pur (enc_pur heldC _)
      · cases h
    · cases h
  · cases h
set_option maxHeartbeats 1000000 in
theorem F120 : IntrFn Tryz.prog 120 (pureFn sp120) := by
  refine pure_fn (X := dX cHB) cHB_sound p120 ?_
  intro args v h
  unfold sp120 at h
  split at h
  · rename_i la b0 xl xh yl yh n
    split at h
    · rename_i ms hl
      split at h
      · rename_i hc
        have h := Option.some.inj h
        subst h
        simp only [decide_eq_true_eq] at hc
        have hout := sl_out hl
        have hel : ∀ hp : Heap, hp.elems la = some (ms.map heldC.enc) := fun hp => (slV_is hl).1.elems hp
        have hel := hel ⟨0, .nil⟩
        have htup := (slV_is hl).1.tup
        simp only [isTuple] at htup
        have hsz : ∀ v ∈ ms.map heldC.enc, v.cells.length = 5 := fun v hv => by
          obtain ⟨k, _, rfl⟩ := List.mem_map.1 hv
          rfl
        have hlen : (ms.map heldC.enc).length ≤ most := by rw [List.length_map]; unfold most; omega
        have hll : (ms.map heldC.enc).length + (0 + 1) ≤ most := by rw [List.length_map]; unfold most; omega
        rw [List.map_append]
        clear hl hc
        refine ClR.walk (c := _) rfl Tryz.func120 rfl (by kernel_rfl) rfl isRet_fail ?_
        simp only [entryEnv, Nat.reduceAdd, emptyHp]
        repeat' (first | (apply W.draw (id := 2) (lc := [0, 1, 2, 3, 4, 5]) (hot := [(1, 2)]); kernel_rfl; kernel_rfl; kernel_rfl; exact Z4) | (refine WD.cons rfl rfl ?_) | (refine WD.nil ⟨?_, ?_⟩; rotate_left; simp only [tN, bN, eN, true_and]) | (refine calmR rfl rfl rfl rfl rfl ?_ ?_; (focus (first | exact Z2 | exact Z1))) | (refine calmE rfl rfl rfl rfl rfl ?_ ?_; (focus (first | exact Z2 | exact Z1))) | (with_reducible refine calmEnd) | (apply WO1.appendK (t := 156) (u := 156) (e := 181) (e' := 181) (sz := 5) (tl := []) (y := la) (l := ms.map heldC.enc); (focus (first | exact Z2 | exact Z1)); exact rfl; exact Z2; exact Z2; exact Z2; (focus (exact ty_row156)); (focus (exact hel)); (focus (exact hsz)); (focus (exact hlen)); (intro v1 hp1 hB1 ho1 hX1; simp only [pM, pN])) | (apply WO1.appendN (t := 156) (u := 156) (e := 181) (e' := 181) (sz := 5) (tl := []) (b := 0) (h0 := ⟨0, .nil⟩); (focus (exact hB1)); (focus (exact hX1)); exact Z1; exact rfl; exact Z2; exact Z2; exact Z2; (focus (exact ty_row156)); exact Z1; (focus (intro v hv; simp at hv; subst hv; rfl)); (focus (simp only [List.length_cons, List.length_nil]; exact hll)); (focus (simp)); (intro v2 hp2 hB2 ho2 hX2; have hc2 := hB2.blt.cells; have ht2 := hB2.blt.tup; obtain ⟨hf2, y1, y2, y3⟩ := hB2.blt.freeze; simp only [AV.cells] at hc2; simp only [isTuple] at ht2; simp only [pM, pN])) | refine go1 ?_ | refine go2 (fun hh => ?_) (fun hh => ?_) | fail)
        all_goals simp only [resV_def (X := dX cHB) Tryz.func120, Tryz.results120, resultsV, resultV, go_sem, *, Nat.reduceLT, Int.reduceEq, Int.reduceBEq, Int.reduceLE, Int.reduceLT, Nat.reduceAdd, Nat.reduceBEq, Nat.reduceEqDiff, reduceIte, Nat.reduceLeDiff, Nat.reduceMul, Nat.reduceSub, reduceCtorEq, frzRes, dFrz, frzCells, isRet_ret, tupleOf]
        all_goals rfl
      · cases h
    · cases h
  · cases h
theorem K120 {X : Ctx} (hX : X.intr 120 = some (pureFn sp120)) (la : AV) (ms : List Held) (b0 n : Int) (x : Bx) (hl : slV heldC la = some ms) (hm : ms.length ≤ 1000) (h : Heap) : Cl X 120 [la, .agg [.int .i64 b0, .int .i64 x.x.lo, .int .i64 x.x.hi, .int .i64 x.y.lo, .int .i64 x.y.hi], .int .i64 n] h (.ret (slN ((ms ++ [Held.mk n x.x x.y]).map heldC.enc)) h none) :=
  Cl.intr hX (by simp [pureFn, AV.pur, AV.purL, sl_pur hl, sp120, hl, hm])
theorem mach_small {ss : List Pt} {cx cy wx wy : Sp} {rs : List Rdg} (h : machB ss cx cy wx wy rs = true) : 2 ≤ ss.length ∧ ss.length ≤ 4 ∧ rs.length ≤ 4 := by
  unfold machB at h
  simp only [Bool.and_eq_true, decide_eq_true_eq] at h
  have h1 : allB ss 2 20 = true := by simp only [h]
  rw [allB_P] at h1
  simp only [pointsB, inB, Bool.and_eq_true, decide_eq_true_eq] at h1
  omega
theorem suit_small {ss hs : List Pt} {cx cy wx wy : Sp} {rs : List Rdg} {err : Int} (h : suitB (machB ss cx cy wx wy rs) ss hs err = true) : machB ss cx cy wx wy rs = true ∧ butB hs err = true ∧ hs.length = ss.length ∧ 2 ≤ ss.length ∧ ss.length ≤ 4 ∧ rs.length ≤ 4 := by
  unfold suitB at h
  simp only [Bool.and_eq_true, decide_eq_true_eq] at h
  exact ⟨h.1.1, h.1.2, h.2, mach_small h.1.1⟩
def SeeV {α : Type} (h : Heap) (c : Cd α) (a : AV) (l : List α) : Prop := ∃ a', viewV h a = some a' ∧ slV c a' = some l
theorem SeeV.of {α : Type} {c : Cd α} {a : AV} {l : List α} (hl : slV c a = some l) (h : Heap) : SeeV h c a l := by
  have hp := sl_pur hl
  rcases (slV_is hl).1 with ⟨rfl | rfl, _⟩ | rfl
  · exact ⟨_, rfl, hl⟩
  · exact ⟨_, rfl, hl⟩
  · exact ⟨_, by simp only [viewV, hp, if_true], hl⟩
theorem viewD_mach {h : Heap} {sa ra sa' ra' : AV} {cxl cxh cyl cyh wxl wxh wyl wyh : Int} (h1 : viewV h sa = some sa') (h2 : viewV h ra = some ra') :
    viewD h (.agg [sa, .int .i64 cxl, .int .i64 cxh, .int .i64 cyl, .int .i64 cyh, .int .i64 wxl, .int .i64 wxh, .int .i64 wyl, .int .i64 wyh, ra]) = some (.agg [sa', .int .i64 cxl, .int .i64 cxh, .int .i64 cyl, .int .i64 cyh, .int .i64 wxl, .int .i64 wxh, .int .i64 wyl, .int .i64 wyh, ra']) := by
  have e : ∀ n, viewV h (.int .i64 n) = some (.int .i64 n) := fun n => rfl
  simp only [viewD, viewVs, h1, h2, e, Option.map_some]
theorem viewD_but {h : Heap} {ha ha' : AV} {err : Int} (h1 : viewV h ha = some ha') : viewD h (.agg [ha, .int .i64 err]) = some (.agg [ha', .int .i64 err]) := by
  have e : ∀ n, viewV h (.int .i64 n) = some (.int .i64 n) := fun n => rfl
  simp only [viewD, viewVs, h1, e, Option.map_some]
end Go.AM
set_option linter.unusedSectionVars false
set_option linter.unusedVariables false
set_option linter.unusedSimpArgs false
set_option maxRecDepth 100000
namespace Go.AM
open Go Go.Proofs
variable [Keep]
attribute [local irreducible] W WO WO1 WD WQ WT thenQ blockQ endR isRet retK Cl ClR
attribute [local irreducible] roundQ RdR clR boundsS machB boxL suitB ordsR lev
def wideB : Bx := ⟨wideS, wideS⟩
def bxI (a b : Bx) : Bx := ⟨interS a.x b.x, interS a.y b.y⟩
def bxEq (a b : Bx) : Bool := (a.x.lo == b.x.lo && a.x.hi == b.x.hi) && (a.y.lo == b.y.lo && a.y.hi == b.y.hi)
def refNow (err : Int) (ss hs : List Pt) (t : Nat) (o : List Nat) (i : Nat) : Bx := nowB err (ss.getD i ⟨0, 0⟩) (turnR (hs.getD (o.getD i 0) ⟨0, 0⟩) (t : Nat))
def refBx (err : Int) (ss hs : List Pt) (t : Nat) (o : List Nat) (n : Nat) : Bx := (List.range n).foldl (fun x i => bxI x (refNow err ss hs t o i)) wideB
def addB (out : List Bx) (x : Bx) : List Bx := if empS x.x || empS x.y || out.any (fun y => bxEq y x) then out else out ++ [x]
def refTo (err : Int) (ss hs : List Pt) (t : Nat) (os : List (List Nat)) (out : List Bx) : List Bx := os.foldl (fun out o => addB out (refBx err ss hs t o ss.length)) out
def refBoxes (err : Int) (ss hs : List Pt) (k : Nat) : List Bx := (List.range k).foldl (fun out t => refTo err ss hs t (lev ss.length ss.length) out) []
def markE (b : Bx) : AV := .agg [.int .i64 0, .int .i64 b.x.lo, .int .i64 b.x.hi, .int .i64 b.y.lo, .int .i64 b.y.hi]
theorem addB_len (out : List Bx) (x : Bx) : (addB out x).length ≤ out.length + 1 := by
  unfold addB
  split <;> simp
theorem refBx_succ (err : Int) (ss hs : List Pt) (t : Nat) (o : List Nat) (n : Nat) : refBx err ss hs t o (n + 1) = bxI (refBx err ss hs t o n) (refNow err ss hs t o n) := by
  unfold refBx
  rw [List.range_succ, List.foldl_append]
  rfl
theorem refTo_next {err : Int} {ss hs : List Pt} {t : Nat} {os : List (List Nat)} {out : List Bx} {k : Nat} {p : List Nat} (h : os[k]? = some p) : refTo err ss hs t (os.take (k + 1)) out = addB (refTo err ss hs t (os.take k) out) (refBx err ss hs t p ss.length) := by
  unfold refTo
  rw [take_next h, List.foldl_append]
  rfl
theorem refBoxes_succ (err : Int) (ss hs : List Pt) (k : Nat) : refBoxes err ss hs (k + 1) = refTo err ss hs k (lev ss.length ss.length) (refBoxes err ss hs k) := by
  unfold refBoxes
  rw [List.range_succ, List.foldl_append]
  rfl
theorem any_take {α : Type} {l : List α} {j : Nat} {y : α} (f : α → Bool) (h : l[j]? = some y) : (l.take (j + 1)).any f = ((l.take j).any f || f y) := by
  rw [take_next h, List.any_append]
  simp
def sp109 : List AV → Option AV
  | [.agg [sa, .int .i64 cxl, .int .i64 cxh, .int .i64 cyl, .int .i64 cyh, .int .i64 wxl, .int .i64 wxh, .int .i64 wyl, .int .i64 wyh, ra], .agg [ha, .int .i64 err]] => match slV ptC sa, slV rdgC ra, slV ptC ha with
    | some ss, some rs, some hs => if (decide (hs.length = ss.length) && decide (1 ≤ ss.length) && decide (ss.length ≤ 4)) = true then some (slN ((refBoxes err ss hs 8).map markE)) else none
    | _, _, _ => none
  | _ => none
theorem markE_pur (l : List Bx) : ∀ a ∈ l.map markE, a.pur = true := by
  intro a ha
  obtain ⟨k, _, rfl⟩ := List.mem_map.1 ha
  rfl
theorem p109 : ∀ args v, sp109 args = some v → v.pur = true := by
  intro args v h
  unfold sp109 at h
  split at h
  · split at h
    · split at h
      · have h := Option.some.inj h
        subst h
        exact slN_pur (markE_pur _)
      · cases h
    · cases h
  · cases h
noncomputable def cHG : FuncId → Option (List AV → Heap → Option (AV × Heap))
  | 81 => some (pureFn sp81)
  | 158 => some (pureFn sp158)
  | _ => none
theorem cHG_sound : Sound (dX cHG) := dX_sound (fun f g h => by
  unfold cHG at h
  split at h
  · cases h; exact F81
  · cases h; exact F158
  · cases h)
theorem mark_row {H : Heap} {u : AV} {l : List Bx} {j : Nat} {y : Bx} (b : Blt H u 5 (l.map markE)) (h : l[j]? = some y) : ∃ id, indexAddrV Tryz.prog H 156 u (.int .i64 ↑j) = some (.eptr id 5 j 0) ∧ H.get id = some (.rw 5 (l.map markE)) ∧ (l.map markE)[j]? = some (.agg [.int .i64 0, .int .i64 y.x.lo, .int .i64 y.x.hi, .int .i64 y.y.lo, .int .i64 y.y.hi]) := by
  have hj : j < (l.map markE).length := by
    rw [List.length_map]
    rcases Nat.lt_or_ge j l.length with q | q
    · exact q
    · rw [List.getElem?_eq_none q] at h; cases h
  obtain ⟨id, e1, e2⟩ := b.idx (P := Tryz.prog) (t := 156) (e := 181) (ag := true) Tryz.underlying156 ty_lay181 hj
  exact ⟨id, e1, e2, by simp [h, markE]⟩
set_option maxHeartbeats 8000000 in
theorem F109 : IntrFn Tryz.prog 109 (pureFn sp109) := by
  refine pure_fn (X := dX cHG) cHG_sound p109 ?_
  intro args v h
  unfold sp109 at h
  split at h
  · rename_i sa cxl cxh cyl cyh wxl wxh wyl wyh ra ha err
    split at h
    · rename_i ss rs hs hl hr hh
      split at h
      · rename_i hc
        have h := Option.some.inj h
        subst h
        simp only [Bool.and_eq_true, decide_eq_true_eq] at hc
        obtain ⟨⟨hsl, hn1⟩, hn4⟩ := hc
        have o1 := sl_out hh
        have o2 := sl_out hl
        have o3 := sl_out hr
        have l1 := sl_len hh
        have l2 := sl_len hl
        rw [hsl] at l1
        obtain ⟨one1, t1⟩ := sl_one hh
        obtain ⟨one2, t2⟩ := sl_one hl
        obtain ⟨one3, t3⟩ := sl_one hr
        have hcl0 := C129 cHG rfl ss.length hn1 hn4 ⟨0, .nil⟩
        unfold ClR at hcl0
        obtain ⟨rr, hcl, hcr⟩ := hcl0
        unfold ordsR at hcr
        obtain ⟨es, hz, rfl, hzx, hel⟩ := hcr
        have hes : es.length ≤ 256 := by
          have h1 := hel.1
          have h2 := lev_small hn4 ss.length hn4
          have h3 : 4 ^ ss.length ≤ 4 ^ 4 := Nat.pow_le_pow_right (by omega) hn4
          omega
        have HEL := Lib.hid hel
        have HES := Lib.hid hes
        have HL := Lib.hid hl
        have HH := Lib.hid hh
        have HSL := Lib.hid hsl
        have HN1 := Lib.hid hn1
        have HN4 := Lib.hid hn4
        generalize hres : refBoxes err ss hs 8 = res
        have HRES := Lib.hid hres
        clear hl hr hh hsl hn1 hn4 hzx hel hes hres
        refine ClR.walk (c := _) rfl Tryz.func109 rfl (by kernel_rfl) rfl isRet_fail ?_
        simp only [entryEnv, Nat.reduceAdd, emptyHp]
        repeat' (first | (apply U6; exact Z1; exact Z1; (focus (exact hcl)); simp only [pM, pN, rR, rP]) | refine go1 ?_ | refine go2 (fun hh => ?_) (fun hh => ?_) | fail)
        refine W.loopN 8 (fun t F => ∃ e lm hp u out, F = Fr.mk 109 false e lm hp [] none ∧ HExt hz hp ∧ BltN hz.next hp u 5 (out.map markE) ∧ out = refBoxes err ss hs t ∧ out.length ≤ 256 * t ∧
          lm.get 2 = some (0, [sa, .int .i64 cxl, .int .i64 cxh, .int .i64 cyl, .int .i64 cyh, .int .i64 wxl, .int .i64 wxh, .int .i64 wyl, .int .i64 wyh, ra]) ∧ lm.get 3 = some (0, [ha, .int .i64 err]) ∧ e.get 2 = some (.lptr 2 0 0) ∧ e.get 3 = some (.lptr 3 0 0) ∧ e.get 5 = some u ∧ e.get 6 = some (.vslice es) ∧ e.get 7 = some (.int .i64 ↑t) ∧ t ≤ 8) ?_ ?_
        · refine ⟨_, _, hz, .nilslice, [], rfl, HExt.refl hz, BltN.nil, rfl, by simp, ?_, ?_, ?_, ?_, ?_, ?_, ?_, ?_⟩ <;> first | exact Z2 | simp [go_sem, *]
        clear hcl
        rintro t F ⟨e, lm, hp, u, out, rfl, hxe, hbu, hot, hol, m2, m3, h2, h3, h5, h6, h7, ht⟩
        have HXE := Lib.hid hxe
        have HBU := Lib.hid hbu
        have HOT := Lib.hid hot
        have HOL := Lib.hid hol
        clear hot hol hxe hbu
        by_cases ht8 : t < 8
        · have hd : decide ((t : Int) < 8) = true := by simp; omega
          have hw := wrap_succ (m := 8) ht8 (by unfold maxL; omega)
          have HU5 := Lib.hid h5
          have ou := HBU.out.blt.out
          have HXE0 := HXE
          have HBU0 := HBU
          clear HXE HBU
          repeat' (first | refine goS ?_ | refine go2 (fun hh => ?_) (fun hh => ?_) | fail)
          refine W.loopN es.length (fun k F => ∃ e lm hp u o2, F = Fr.mk 109 false e lm hp [] none ∧ HExt hz hp ∧ BltN hz.next hp u 5 (o2.map markE) ∧ o2 = refTo err ss hs t ((lev ss.length ss.length).take k) out ∧ o2.length ≤ 256 * t + k ∧
            lm.get 2 = some (0, [sa, .int .i64 cxl, .int .i64 cxh, .int .i64 cyl, .int .i64 cyh, .int .i64 wxl, .int .i64 wxh, .int .i64 wyl, .int .i64 wyh, ra]) ∧ lm.get 3 = some (0, [ha, .int .i64 err]) ∧ e.get 2 = some (.lptr 2 0 0) ∧ e.get 3 = some (.lptr 3 0 0) ∧ e.get 5 = some u ∧ e.get 6 = some (.vslice es) ∧ e.get 7 = some (.int .i64 ↑t) ∧ e.get 8 = some (.int .i64 ↑k) ∧ k ≤ es.length) ?_ ?_
          · refine ⟨_, _, hp, u, out, rfl, HXE0.out, HBU0.out, rfl, by have := HOL.out; omega, ?_, ?_, ?_, ?_, ?_, ?_, ?_, ?_, ?_⟩ <;> first | exact Z2 | simp [go_sem, *]
          clear m2 m3 h2 h3 h5 h6 h7 hd HXE0 HBU0 ou HU5
          rintro k F ⟨e, lm, hp, u, o2, rfl, hxe, hbu, hot2, hol2, m2, m3, h2, h3, h5, h6, h7, h8, hk⟩
          have HXE := Lib.hid hxe
          have HBU := Lib.hid hbu
          have HOT2 := Lib.hid hot2
          have HOL2 := Lib.hid hol2
          have ou := hbu.blt.out
          have lu := hbu.blt.len
          have tu := hbu.blt.tup
          simp only [isTuple] at tu
          rw [List.length_map] at lu
          clear hot2 hol2 hxe hbu
          by_cases hkl : k < es.length
          · have hd : decide ((k : Int) < (es.length : Int)) = true := by simpa using hkl
            have hw2 := wrap_succ (m := es.length) hkl (by have := HES.out; unfold maxL; omega)
            obtain ⟨r, hr⟩ := get_some hkl
            obtain ⟨p, hp'⟩ := get_some (show k < (lev ss.length ss.length).length by rw [← HEL.out.1]; exact hkl)
            have hBr : Blt hp r 1 (natsV p) := (HEL.out.2 k r p hr hp').ext HXE.out
            have hpm := List.mem_of_getElem? hp'
            have hpl : p.length = ss.length := lev_len _ p hpm
            have hpn : ∀ k ∈ p, k < ss.length := (lev_ord (p := p) _ p hpm).2
            have hix : indexAddrV Tryz.prog hp 194 (.vslice es) (.int .i64 ↑k) = some (.vptr [r]) := by
              have : idxV (.int .i64 (k : Int)) es.length = some k := by simp [idxV, hkl]
              simp only [indexAddrV, Tryz.underlying194, ty_lay39, this, hr, hBr.cells, List.length_cons, List.length_nil, Nat.zero_add, if_true]
            have cr := hBr.cells
            have orr := hBr.out
            have tr := hBr.tup
            simp only [AV.cells] at cr
            simp only [isTuple] at tr
            have HP := Lib.hid hp'
            have HB := Lib.hid hBr
            have HPL := Lib.hid hpl
            have HPN := Lib.hid hpn
            have HOU := Lib.hid ou
            have HLU := Lib.hid lu
            clear hr hp' hBr hpm hpl hpn ou lu tu
            repeat' (first | refine goS ?_ | refine go2 (fun hh => ?_) (fun hh => ?_) | fail)
            refine W.loopN ss.length (fun i F => ∃ e lm g x, F = Fr.mk 109 false e lm hp [] none ∧ x = refBx err ss hs t p i ∧ lm.get 9 = some (g, [.int .i64 0, .int .i64 x.x.lo, .int .i64 x.x.hi, .int .i64 x.y.lo, .int .i64 x.y.hi]) ∧ e.get 9 = some (.lptr 9 g 0) ∧
              lm.get 2 = some (0, [sa, .int .i64 cxl, .int .i64 cxh, .int .i64 cyl, .int .i64 cyh, .int .i64 wxl, .int .i64 wxh, .int .i64 wyl, .int .i64 wyh, ra]) ∧ lm.get 3 = some (0, [ha, .int .i64 err]) ∧ e.get 2 = some (.lptr 2 0 0) ∧ e.get 3 = some (.lptr 3 0 0) ∧ e.get 5 = some u ∧ e.get 6 = some (.vslice es) ∧ e.get 7 = some (.int .i64 ↑t) ∧ e.get 8 = some (.int .i64 ↑k) ∧ e.get 10 = some (.int .i64 ↑i) ∧ i ≤ ss.length) ?_ ?_
            · refine ⟨_, _, nextGen lm 9, wideB, rfl, rfl, ?_, ?_, ?_, ?_, ?_, ?_, ?_, ?_, ?_, ?_, ?_, ?_⟩ <;> first | (simp only [nextGen, wideB, wideS, go_sem, *, Nat.reduceLT, Int.reduceEq, Int.reduceBEq, Int.reduceLE, Int.reduceLT, Nat.reduceAdd, Nat.reduceBEq, Nat.reduceEqDiff, reduceIte, Nat.reduceLeDiff, Nat.reduceMul, Nat.reduceSub, reduceCtorEq]; done) | simp [nextGen, wideB, wideS, go_sem, *, Nat.reduceLT, Int.reduceEq, Int.reduceBEq, Int.reduceLE, Int.reduceLT, Nat.reduceAdd, Nat.reduceBEq, Nat.reduceEqDiff, reduceIte, Nat.reduceLeDiff, Nat.reduceMul, Nat.reduceSub, reduceCtorEq]
            clear m2 m3 h2 h3 h5 h6 h7 h8 hd
            rintro i F ⟨e, lm, g, x, rfl, hx, m9, h9, m2, m3, h2, h3, h5, h6, h7, h8, h10, hi⟩
            have HX := Lib.hid hx
            clear hx
            by_cases hil : i < ss.length
            · have hd : decide ((i : Int) < (ss.length : Int)) = true := by simpa using hil
              have hw3 := wrap_succ (m := ss.length) hil (by have := HN4.out; unfold maxL; omega)
              obtain ⟨s, hs'⟩ := get_some hil
              obtain ⟨v, hv⟩ := get_some (show i < p.length by rw [HPL.out]; exact hil)
              have hvn : v < hs.length := by rw [HSL.out]; exact HPN.out v (List.mem_of_getElem? hv)
              obtain ⟨q, hq⟩ := get_some hvn
              obtain ⟨id, hidx, hgr⟩ := HB.out.idx (P := Tryz.prog) (t := 39) (e := 3) (ag := false) Tryz.underlying39 ty_lay3 (k := i) (by rw [natsV_len, HPL.out]; exact hil)
              have hav := nat_at' hv
              have hi1 := pts_idx HL.out hs'
              have hi2 := pts_idx HH.out hq
              have hnx : refBx err ss hs t p (i + 1) = bxI x (nowB err s (turnR q (t : Nat))) := by
                rw [refBx_succ, ← HX.out]
                simp [refNow, List.getD, hs', hv, hq]
              have k81 := fun h => K81 (X := dX cHG) rfl q (t : Nat) h
              generalize turnR q (t : Nat) = w at *
              have w1 : IntKind.i64.wrap (w.x - s.x) = w64 (w.x - s.x) := rfl
              have w2 : IntKind.i64.wrap (w.y - s.y) = w64 (w.y - s.y) := rfl
              have hnow : nowB err s w = ⟨⟨w64 (w64 (w.x - s.x) - err), w64 (w64 (w.x - s.x) + err)⟩, ⟨w64 (w64 (w.y - s.y) - err), w64 (w64 (w.y - s.y) + err)⟩⟩ := rfl
              rw [hnow] at hnx
              generalize w64 (w.x - s.x) = dx at *
              generalize w64 (w.y - s.y) = dy at *
              have w3 : IntKind.i64.wrap (dx - err) = w64 (dx - err) := rfl
              have w4 : IntKind.i64.wrap (dx + err) = w64 (dx + err) := rfl
              have w5 : IntKind.i64.wrap (dy - err) = w64 (dy - err) := rfl
              have w6 : IntKind.i64.wrap (dy + err) = w64 (dy + err) := rfl
              generalize w64 (dx - err) = xl at *
              generalize w64 (dx + err) = xh at *
              generalize w64 (dy - err) = yl at *
              generalize w64 (dy + err) = yh at *
              have k158x := fun h => K158 (X := dX cHG) rfl x.x.lo x.x.hi xl xh h
              have k158y := fun h => K158 (X := dX cHG) rfl x.y.lo x.y.hi yl yh h
              have HNX := Lib.hid hnx
              clear hs' hv hq hnx hnow
              repeat' (first | (apply W.draw (id := 13) (lc := [18, 19, 0, 1, 2, 3, 4, 5, 6, 7, 8, 9, 10, 11, 12, 13, 14, 15, 16, 17, 20, 21]) (hot := [(12, 14), (12, 16), (12, 17), (14, 20), (16, 20), (17, 20)]); kernel_rfl; kernel_rfl; kernel_rfl; exact Z4) | (apply WD.cons (o := ⟨some 47, _, _, _, _, none⟩); exact rfl; exact rfl) | (apply WD.cons (o := ⟨some 48, _, _, _, _, none⟩); exact rfl; exact rfl) | (apply WD.cons (o := ⟨some 49, _, _, _, _, none⟩); exact rfl; exact rfl) | (apply WD.cons (o := ⟨some 50, _, _, _, _, none⟩); exact rfl; exact rfl) | (apply WD.cons (o := ⟨some 51, _, _, _, _, none⟩); exact rfl; exact rfl) | (apply WD.cons (o := ⟨some 52, _, _, _, _, none⟩); exact rfl; exact rfl) | (apply WD.cons (o := ⟨some 53, _, _, _, _, none⟩); exact rfl; exact rfl) | (apply WD.cons (o := ⟨some 54, _, _, _, _, none⟩); exact rfl; exact rfl) | (apply WD.cons (o := ⟨some 55, _, _, _, _, none⟩); exact rfl; exact rfl) | (apply WD.cons (o := ⟨some 56, _, _, _, _, none⟩); exact rfl; exact rfl) | (apply WD.alloc (o := ⟨some 11, .alloc 38, 0, _, _, none⟩); exact rfl; exact rfl; exact Z1; simp only [pM, pN]) | (apply WD.alloc (o := ⟨some 12, .alloc 38, 0, _, _, none⟩); exact rfl; exact rfl; exact Z1; simp only [pM, pN]) | (apply WD.cons (o := ⟨none, .store 38 (.tmp 11) (.tmp 51), _, _, _, none⟩); exact rfl; exact rfl) | (apply WD.cons (o := ⟨none, .store 38 (.tmp 12) (.tmp 56), _, _, _, none⟩); exact rfl; exact rfl) | (refine WD.cons rfl rfl ?_) | (refine WD.nil ⟨?_, ?_⟩; rotate_left; simp only [tN, bN, eN, true_and]) | (refine calmR rfl rfl rfl rfl rfl ?_ ?_; (focus (first | exact Z2 | exact Z1))) | (refine calmE rfl rfl rfl rfl rfl ?_ ?_; (focus (first | exact Z2 | exact Z1))) | (with_reducible refine calmEnd) | refine go1 ?_ | (apply U6; exact Z1; exact Z1; (focus (simp only [List.nil_append, List.append_nil]; first | exact k81 _ | exact k158x _ | exact k158y _)); simp only [pM, pN, rR, rP]) | refine go2 (fun hh => ?_) (fun hh => ?_) | fail)
              refine ⟨hil, _, _, g, bxI x ⟨⟨xl, xh⟩, ⟨yl, yh⟩⟩, rfl, HNX.out.symm, ?_, ?_, ?_, ?_, ?_, ?_, ?_, ?_, ?_, ?_, ?_, by omega⟩
              all_goals first | (simp only [bxI, interS, go_sem, *, Nat.reduceLT, Int.reduceEq, Int.reduceBEq, Int.reduceLE, Int.reduceLT, Nat.reduceAdd, Nat.reduceBEq, Nat.reduceEqDiff, reduceIte, Nat.reduceLeDiff, Nat.reduceMul, Nat.reduceSub, reduceCtorEq]; done) | simp [bxI, interS, go_sem, *, Nat.reduceLT, Int.reduceEq, Int.reduceBEq, Int.reduceLE, Int.reduceLT, Nat.reduceAdd, Nat.reduceBEq, Nat.reduceEqDiff, reduceIte, Nat.reduceLeDiff, Nat.reduceMul, Nat.reduceSub, reduceCtorEq]
            · have hd : decide ((i : Int) < (ss.length : Int)) = false := by simpa using hil
              have hii : i = ss.length := by omega
              have hx := HX.out
              rw [hii] at hx
              have HX2 := Lib.hid hx
              have hem : addB o2 x = if (empS x.x || empS x.y) || o2.any (fun y => bxEq y x) then o2 else o2 ++ [x] := rfl
              have HEM := Lib.hid hem
              have hnt := refTo_next (err := err) (ss := ss) (hs := hs) (t := t) (out := out) HP.out
              rw [← HOT2.out, ← hx] at hnt
              have HNT := Lib.hid hnt
              have hep : empS x.x = decide (x.x.lo > x.x.hi) := rfl
              have hep2 : empS x.y = decide (x.y.lo > x.y.hi) := rfl
              have ou := HOU.out
              have lu := HLU.out
              have HII := Lib.hid hii
              have hcase : (decide (x.x.lo > x.x.hi) = true ∧ (empS x.x || empS x.y) = true) ∨ (decide (x.x.lo > x.x.hi) = false ∧ decide (x.y.lo > x.y.hi) = true ∧ (empS x.x || empS x.y) = true) ∨ (decide (x.x.lo > x.x.hi) = false ∧ decide (x.y.lo > x.y.hi) = false ∧ (empS x.x || empS x.y) = false) := by
                rw [hep, hep2]
                cases decide (x.x.lo > x.x.hi) <;> cases decide (x.y.lo > x.y.hi) <;> simp
              generalize (empS x.x || empS x.y) = mz at *
              clear hii hx hem hnt HX hil hi hep hep2
              have hfin : ∀ (b : Bool), (mz || o2.any (fun y => bxEq y x)) = b → addB o2 x = if b then o2 else o2 ++ [x] := fun b hb => by rw [HEM.out, hb]
              have HFIN := Lib.hid hfin
              clear hfin
              rcases hcase with ⟨c1, cm⟩ | ⟨c1, c2, cm⟩ | ⟨c1, c2, cm⟩
              all_goals (have HM := Lib.hid cm; clear cm)
              all_goals repeat' (first | refine goS ?_ | refine go2 (fun hh => ?_) (fun hh => ?_) | fail)
              all_goals (
                refine W.loopN o2.length (fun j F => ∃ e, F = Fr.mk 109 false e lm hp [] none ∧ e.get 13 = some (.bool (mz || (o2.take j).any (fun y => bxEq y x))) ∧ e.get 9 = some (.lptr 9 g 0) ∧
                  e.get 2 = some (.lptr 2 0 0) ∧ e.get 3 = some (.lptr 3 0 0) ∧ e.get 5 = some u ∧ e.get 6 = some (.vslice es) ∧ e.get 7 = some (.int .i64 ↑t) ∧ e.get 8 = some (.int .i64 ↑k) ∧ e.get 14 = some (.int .i64 ↑j) ∧ j ≤ o2.length) ?_ ?_
                · refine ⟨_, rfl, ?_, ?_, ?_, ?_, ?_, ?_, ?_, ?_, ?_, by omega⟩
                  · rw [HM.out]; simp only [List.take_zero, List.any_nil, Bool.or_false, go_sem, *, Nat.reduceLT, Int.reduceEq, Int.reduceBEq, Int.reduceLE, Int.reduceLT, Nat.reduceAdd, Nat.reduceBEq, Nat.reduceEqDiff, reduceIte, Nat.reduceLeDiff, Nat.reduceMul, Nat.reduceSub, reduceCtorEq]
                  all_goals first | exact Z2 | simp [go_sem, *]
                clear h2 h3 h5 h6 h7 h8 h9 h10 hd
                rintro j F ⟨e, rfl, h13, h9, h2, h3, h5, h6, h7, h8, h14, hj⟩
                by_cases hjl : j < o2.length
                · have hd : decide ((j : Int) < (o2.length : Int)) = true := by simpa using hjl
                  have hw4 := wrap_succ (m := o2.length) hjl (by have := HOL2.out; have := HES.out; unfold maxL; omega)
                  obtain ⟨y, hy⟩ := get_some hjl
                  obtain ⟨id, hidx, hgr, hat⟩ := mark_row HBU.out.blt hy
                  have heq := eq181 0 y.x.lo y.x.hi y.y.lo y.y.hi 0 x.x.lo x.x.hi x.y.lo x.y.hi
                  rw [show ((0 : Int) == 0 && (y.x.lo == x.x.lo && y.x.hi == x.x.hi) && (y.y.lo == x.y.lo && y.y.hi == x.y.hi)) = bxEq y x from by simp [bxEq]] at heq
                  have hnx := any_take (fun y => bxEq y x) hy
                  have HNX := Lib.hid hnx
                  clear hy hnx
                  generalize bxEq y x = bq at *
                  generalize hcm : (mz || (o2.take j).any (fun y => bxEq y x)) = cm at *
                  have HCM := Lib.hid hcm
                  clear hcm
                  cases cm
                  all_goals repeat' (first | (apply W.drawQ (id := 20) (l1 := [0, 1, 2, 3, 4, 5, 6, 7, 8, 9]) (l2 := []); kernel_rfl; kernel_rfl; kernel_rfl; exact Z4) | refine go1 ?_ | refine go2 (fun hh => ?_) (fun hh => ?_) | fail)
                  all_goals (
                    refine ⟨hjl, _, rfl, ?_, ?_, ?_, ?_, ?_, ?_, ?_, ?_, ?_, by omega⟩
                    · rw [HNX.out, ← Bool.or_assoc, HCM.out]; simp only [Bool.true_or, Bool.false_or, go_sem, *, Nat.reduceLT, Int.reduceEq, Int.reduceBEq, Int.reduceLE, Int.reduceLT, Nat.reduceAdd, Nat.reduceBEq, Nat.reduceEqDiff, reduceIte, Nat.reduceLeDiff, Nat.reduceMul, Nat.reduceSub, reduceCtorEq]
                    all_goals exact Z2)
                · have hd : decide ((j : Int) < (o2.length : Int)) = false := by simpa using hjl
                  have hjj : j = o2.length := by omega
                  rw [hjj, List.take_length] at h13
                  have had0 := HFIN.out _ rfl
                  generalize (mz || o2.any (fun y => bxEq y x)) = cm at h13 had0
                  have HAD := Lib.hid had0
                  have HJ := Lib.hid hjj
                  clear hjj had0 hjl hj
                  cases cm
                  · have hll : (o2.map markE).length + (0 + 1) ≤ most := by
                      rw [List.length_map]
                      have := HOL2.out
                      have := HES.out
                      unfold most; omega
                    repeat' (first | (apply WO1.appendN (t := 156) (u := 156) (e := 181) (e' := 181) (sz := 5) (tl := []) (b := hz.next) (h0 := hz); (focus (exact HBU.out)); (focus (exact HXE.out)); exact Z1; exact rfl; exact Z2; exact Z2; exact Z2; (focus (exact ty_row156)); exact Z1; (focus (intro v hv; simp at hv; subst hv; rfl)); (focus (simp only [List.length_cons, List.length_nil]; exact hll)); (focus (simp)); (intro v2 hp2 hB2 ho2 hX2; have hc2 := hB2.blt.cells; have ht2 := hB2.blt.tup; simp only [AV.cells] at hc2; simp only [isTuple] at ht2; simp only [pM, pN])) | refine go1 ?_ | refine go2 (fun hh => ?_) (fun hh => ?_) | fail)
                    have had : addB o2 x = o2 ++ [x] := by rw [HAD.out]; rfl
                    refine ⟨hkl, _, _, hp2, v2, o2 ++ [x], rfl, hX2, ?_, ?_, ?_, ?_, ?_, ?_, ?_, ?_, ?_, ?_, ?_, by omega⟩
                    · have e3 : (o2 ++ [x]).map markE = o2.map markE ++ [.agg [.int .i64 0, .int .i64 x.x.lo, .int .i64 x.x.hi, .int .i64 x.y.lo, .int .i64 x.y.hi]] := by simp [markE]
                      rw [e3]; exact hB2
                    · rw [HNT.out]; exact had.symm
                    · have := HOL2.out
                      simp only [List.length_append, List.length_cons, List.length_nil]; omega
                    all_goals exact Z2
                  · repeat' (first | refine goS ?_ | refine go2 (fun hh => ?_) (fun hh => ?_) | fail)
                    have had : addB o2 x = o2 := by rw [HAD.out]; rfl
                    refine ⟨hkl, _, _, hp, u, o2, rfl, HXE.out, HBU.out, ?_, ?_, ?_, ?_, ?_, ?_, ?_, ?_, ?_, ?_, by omega⟩
                    · rw [HNT.out]; exact had.symm
                    · have := HOL2.out
                      omega
                    all_goals exact Z2)
          · have hd : decide ((k : Int) < (es.length : Int)) = false := by simpa using hkl
            have hke : k = es.length := by omega
            have ho2 : o2 = refBoxes err ss hs (t + 1) := by
              rw [HOT2.out, hke, HEL.out.1, List.take_length, HOT.out, refBoxes_succ]
            have HO2 := Lib.hid ho2
            have HK := Lib.hid hk
            clear hke ho2 hkl hk
            repeat' (first | refine goS ?_ | refine go2 (fun hh => ?_) (fun hh => ?_) | fail)
            refine ⟨ht8, _, _, hp, u, o2, rfl, HXE.out, HBU.out, HO2.out, ?_, ?_, ?_, ?_, ?_, ?_, ?_, ?_, by omega⟩
            · have := HOL2.out
              have := HK.out
              have := HES.out
              omega
            all_goals exact Z2
        · have hd : decide ((t : Int) < 8) = false := by simp; omega
          have htt : t = 8 := by omega
          have hor : out = res := by rw [HOT.out, htt, HRES.out]
          subst hor
          obtain ⟨hf2, y1, y2, y3⟩ := HBU.out.blt.freeze
          have ou := HBU.out.blt.out
          have cu := HBU.out.blt.cells
          have tu := HBU.out.blt.tup
          simp only [AV.cells] at cu
          simp only [isTuple] at tu
          clear htt ht8 ht
          repeat' (first | refine goS ?_ | refine go2 (fun hh => ?_) (fun hh => ?_) | fail)
          all_goals simp only [resV_def (X := dX cHG) Tryz.func109, Tryz.results109, resultsV, resultV, go_sem, *, Nat.reduceLT, Int.reduceEq, Int.reduceBEq, Int.reduceLE, Int.reduceLT, Nat.reduceAdd, Nat.reduceBEq, Nat.reduceEqDiff, reduceIte, Nat.reduceLeDiff, Nat.reduceMul, Nat.reduceSub, reduceCtorEq, frzRes, dFrz, frzCells, isRet_ret, tupleOf]
      · cases h
    · cases h
  · cases h
end Go.AM
set_option linter.unusedSimpArgs false
set_option linter.unusedVariables false
set_option linter.unusedSectionVars false
namespace Go.AM
open Go
variable [Keep]
def empB (b : Bx) : Bool := empS b.x || empS b.y
theorem bxI_emp {a b : Bx} (h : empB a = true) : empB (bxI a b) = true := by
  simp only [empB, bxI, Bool.or_eq_true] at h ⊢
  exact h.imp emp_inter emp_inter
theorem fold_emp : ∀ (l : List Bx) {x : Bx}, empB x = true → empB (l.foldl bxI x) = true := by
  intro l
  induction l with
  | nil => intro x h; exact h
  | cons y r ih => intro x h; exact ih (bxI_emp h)
theorem goB_fold : ∀ (l : List Bx) (x : Bx), l ≠ [] ∨ empB x = false → goB l x = if empB (l.foldl bxI x) then none else some (l.foldl bxI x) := by
  intro l
  induction l with
  | nil =>
    intro x h
    rcases h with h | h
    · exact absurd rfl h
    · simp [goB, h]
  | cons n r ih =>
    intro x _
    have e : goB (n :: r) x = if empB (bxI x n) then none else goB r (bxI x n) := rfl
    rw [e, List.foldl_cons]
    cases h : empB (bxI x n) with
    | true => simp [fold_emp r h]
    | false => simp only [Bool.false_eq_true, if_false]; exact ih _ (.inr h)
theorem bxI_same (n : Bx) : bxI n n = n := by
  obtain ⟨x, y⟩ := n
  have h : ∀ s : Sp, interS s s = s := fun s => Sp.ext2 (by simp [interS_lo]) (by simp [interS_hi])
  simp [bxI, h]
structure BdB (b : Bx) : Prop where
  a : -104 ≤ b.x.lo ∧ b.x.lo ≤ 104 ∧ -104 ≤ b.x.hi ∧ b.x.hi ≤ 104
  b : -104 ≤ b.y.lo ∧ b.y.lo ≤ 104 ∧ -104 ≤ b.y.hi ∧ b.y.hi ≤ 104
theorem bxI_wide {n : Bx} (h : BdB n) : bxI wideB n = n := by
  obtain ⟨x, y⟩ := n
  have h1 := h.a
  have h2 := h.b
  simp only at h1 h2
  have e1 : interS wideS x = x := interW (by omega) (by omega)
  have e2 : interS wideS y = y := interW (by omega) (by omega)
  show (⟨interS wideS x, interS wideS y⟩ : Bx) = _
  rw [e1, e2]
theorem bxI_bd {a b : Bx} (h : BdB a) (k : BdB b) : BdB (bxI a b) := by
  have h1 := h.a
  have h2 := h.b
  have k1 := k.a
  have k2 := k.b
  refine ⟨?_, ?_⟩ <;> simp only [bxI, interS_lo, interS_hi] <;> omega
theorem fold_bd : ∀ (l : List Bx) (x : Bx), (∀ y ∈ l, BdB y) → BdB x → BdB (l.foldl bxI x) := by
  intro l
  induction l with
  | nil => intro x _ h; exact h
  | cons y r ih => intro x hl h; exact ih _ (fun z hz => hl z (by simp [hz])) (bxI_bd h (hl y (by simp)))
theorem boxS_fold {l : List Bx} (hne : l ≠ []) (h : ∀ y ∈ l, BdB y) : (boxS l = if empB (l.foldl bxI wideB) then none else some (l.foldl bxI wideB)) ∧ BdB (l.foldl bxI wideB) := by
  cases l with
  | nil => exact absurd rfl hne
  | cons n r =>
    have hn := h n (by simp)
    have e : (n :: r).foldl bxI wideB = r.foldl bxI n := by rw [List.foldl_cons, bxI_wide hn]
    have e2 : (n :: r).foldl bxI n = r.foldl bxI n := by rw [List.foldl_cons, bxI_same]
    rw [e]
    refine ⟨?_, fold_bd r n (fun z hz => h z (by simp [hz])) hn⟩
    show goB (n :: r) n = _
    rw [goB_fold _ _ (.inl (by simp)), e2]
theorem ok20 {p : Pt} : okPt 20 p = true ↔ (-20 ≤ p.x ∧ p.x ≤ 20) ∧ (-20 ≤ p.y ∧ p.y ≤ 20) := by
  have e : w64 (-20) = -20 := rfl
  simp only [okPt, inB, e, Bool.and_eq_true, decide_eq_true_eq, ge_iff_le]
theorem nowB_bd {err : Int} {s p : Pt} (hs : okPt 20 s = true) (hp : okPt 80 p = true) (h0 : 0 ≤ err) (h4 : err ≤ 4) : BdB (nowB err s p) ∧ nowB err s p = ⟨⟨p.x - s.x - err, p.x - s.x + err⟩, ⟨p.y - s.y - err, p.y - s.y + err⟩⟩ := by
  have a := ok20.1 hs
  have b := ok80.1 hp
  have e1 : w64 (p.x - s.x) = p.x - s.x := wrap_small (by omega) (by omega)
  have e2 : w64 (p.y - s.y) = p.y - s.y := wrap_small (by omega) (by omega)
  have e3 : w64 (p.x - s.x - err) = p.x - s.x - err := wrap_small (by omega) (by omega)
  have e4 : w64 (p.x - s.x + err) = p.x - s.x + err := wrap_small (by omega) (by omega)
  have e5 : w64 (p.y - s.y - err) = p.y - s.y - err := wrap_small (by omega) (by omega)
  have e6 : w64 (p.y - s.y + err) = p.y - s.y + err := wrap_small (by omega) (by omega)
  have e : nowB err s p = ⟨⟨p.x - s.x - err, p.x - s.x + err⟩, ⟨p.y - s.y - err, p.y - s.y + err⟩⟩ := by
    unfold nowB
    rw [e1, e2, e3, e4, e5, e6]
  refine ⟨?_, e⟩
  rw [e]
  constructor <;> simp only <;> omega
theorem ords_ext (n : Nat) : ∀ (d : Nat) (p : List Nat), ordsL n d p = ext n d p := by
  intro d
  induction d with
  | zero => intro p; rfl
  | succ d ih =>
    intro p
    simp only [ordsL, ext, kidsTo]
    rw [List.flatMap_map]
    induction List.range n with
    | nil => rfl
    | cons i r ihr =>
      rw [List.flatMap_cons, ihr, List.filter_cons]
      cases h : p.contains i with
      | true => simp
      | false => simp [ih]
theorem ords_lev (n : Nat) : ordsL n n [] = lev n n := by
  have := lev_ext n n 0
  rw [Nat.zero_add] at this
  rw [this, ords_ext]
  show _ = [[]].flatMap (ext n n)
  simp
def addU (out : List Bx) (x : Bx) : List Bx := if out.any (fun y => bxEq y x) then out else out ++ [x]
theorem bxEq_iff {a b : Bx} : bxEq a b = true ↔ a = b := by
  obtain ⟨⟨a1, a2⟩, ⟨a3, a4⟩⟩ := a
  obtain ⟨⟨b1, b2⟩, ⟨b3, b4⟩⟩ := b
  simp only [bxEq, Bool.and_eq_true, beq_iff_eq, Bx.mk.injEq, Sp.mk.injEq]
theorem any_mem {out : List Bx} {x : Bx} : out.any (fun y => bxEq y x) = true ↔ x ∈ out := by
  rw [List.any_eq_true]
  constructor
  · rintro ⟨y, h1, h2⟩; rw [← bxEq_iff.1 h2]; exact h1
  · intro h; exact ⟨x, h, bxEq_iff.2 rfl⟩
theorem addU_mem {out : List Bx} {x y : Bx} : y ∈ addU out x ↔ y ∈ out ∨ y = x := by
  unfold addU
  split
  · rename_i h
    have := any_mem.1 h
    constructor
    · exact .inl
    · rintro (q | rfl)
      · exact q
      · exact this
  · simp
theorem dd_mem {y : Bx} : ∀ {l out : List Bx}, y ∈ l.foldl addU out ↔ y ∈ out ∨ y ∈ l := by
  intro l
  induction l with
  | nil => intro out; simp
  | cons x r ih =>
    intro out
    rw [List.foldl_cons, ih, addU_mem, List.mem_cons]
    simp only [or_assoc]
theorem dd_any (p : Bx → Bool) (l : List Bx) : (l.foldl addU []).any p = l.any p := by
  rw [Bool.eq_iff_iff, List.any_eq_true, List.any_eq_true]
  simp only [dd_mem, List.not_mem_nil, false_or]
theorem fold_filterMap {α β : Type} (f : α → Option β) (g : List β → β → List β) : ∀ (l : List α) (s : List β), l.foldl (fun s a => match f a with | none => s | some b => g s b) s = (l.filterMap f).foldl g s := by
  intro l
  induction l with
  | nil => intro s; rfl
  | cons a r ih =>
    intro s
    rw [List.foldl_cons, ih]
    cases h : f a <;> simp [h]
theorem refBx_fold (err : Int) (ss hs : List Pt) (t : Nat) (o : List Nat) (n : Nat) : refBx err ss hs t o n = ((List.range n).map (refNow err ss hs t o)).foldl bxI wideB := by
  unfold refBx
  rw [List.foldl_map]
section
variable {err : Int} {ss hs : List Pt} (h20 : ss.all (okPt 20) = true) (h80 : hs.all (okPt 80) = true) (h0 : 0 ≤ err) (h4 : err ≤ 4) (hn : 1 ≤ ss.length)
include h20 h80 h0 h4 hn
theorem now_ref {t : Nat} (ht : t < 8) (o : List Nat) (i : Nat) : BdB (refNow err ss hs t o i) ∧ refNow err ss hs t o i = nowB err (ss.getD i ⟨0, 0⟩) (turnP (t : Nat) (hs.getD (o.getD i 0) ⟨0, 0⟩)) := by
  have e : refNow err ss hs t o i = nowB err (ss.getD i ⟨0, 0⟩) (turnP (t : Nat) (hs.getD (o.getD i 0) ⟨0, 0⟩)) := by
    unfold refNow
    rw [turnP_R (by simp [inB]; omega)]
  refine ⟨?_, e⟩
  rw [e]
  have e1 : ∀ (f : Int) (l : List Pt) (i : Nat), l.all (okPt f) = true → okPt f ⟨0, 0⟩ = true → okPt f (l.getD i ⟨0, 0⟩) = true := by
    intro f l i h hf
    rw [List.getD]
    cases e : l[i]? with
    | none => exact hf
    | some p => exact List.all_eq_true.1 h p (List.mem_of_getElem? e)
  exact (nowB_bd (e1 20 ss i h20 (by decide)) (turn_ok ht (e1 80 hs _ h80 (by decide))) h0 h4).1
theorem boxOn_ref {t : Nat} (ht : t < 8) (o : List Nat) : boxOn err ss hs t o = (if empB (refBx err ss hs t o ss.length) then none else some (refBx err ss hs t o ss.length)) ∧ BdB (refBx err ss hs t o ss.length) := by
  have e : ((List.range ss.length).map fun i => nowB err (ss.getD i ⟨0, 0⟩) (turnP (t : Nat) (hs.getD (o.getD i 0) ⟨0, 0⟩))) = (List.range ss.length).map (refNow err ss hs t o) :=
    List.map_congr_left fun i _ => (now_ref h20 h80 h0 h4 hn ht o i).2.symm
  unfold boxOn
  rw [refBx_fold, e]
  refine boxS_fold (fun h => ?_) (fun y hy => ?_)
  · have := congrArg List.length h
    rw [List.length_map, List.length_range, List.length_nil] at this
    omega
  · obtain ⟨i, _, rfl⟩ := List.mem_map.1 hy
    exact (now_ref h20 h80 h0 h4 hn ht o i).1
theorem boxT_bd {t : Nat} (ht : t < 8) : ∀ y ∈ boxT err ss hs t, BdB y ∧ empB y = false := by
  intro y hy
  obtain ⟨o, _, ho⟩ := List.mem_filterMap.1 hy
  obtain ⟨h1, h2⟩ := boxOn_ref h20 h80 h0 h4 hn ht o
  rw [h1] at ho
  split at ho
  · cases ho
  · rename_i he
    cases ho
    exact ⟨h2, by simpa using he⟩
theorem boxL_bd : ∀ y ∈ boxL err ss hs, BdB y ∧ empB y = false := by
  intro y hy
  obtain ⟨t, ht, h⟩ := List.mem_flatMap.1 hy
  exact boxT_bd h20 h80 h0 h4 hn (List.mem_range.1 ht) y h
theorem refTo_dd {t : Nat} (ht : t < 8) (out : List Bx) : refTo err ss hs t (lev ss.length ss.length) out = (boxT err ss hs t).foldl addU out := by
  unfold refTo boxT
  rw [← fold_filterMap, ords_lev]
  congr 1
  funext out o
  rw [(boxOn_ref h20 h80 h0 h4 hn ht o).1]
  have e : addB out (refBx err ss hs t o ss.length) = if empB (refBx err ss hs t o ss.length) || out.any (fun y => bxEq y (refBx err ss hs t o ss.length)) then out else out ++ [refBx err ss hs t o ss.length] := rfl
  rw [e]
  cases empB (refBx err ss hs t o ss.length) <;> simp [addU]
theorem refBoxes_dd : refBoxes err ss hs 8 = (boxL err ss hs).foldl addU [] := by
  have : ∀ k, k ≤ 8 → refBoxes err ss hs k = ((List.range k).flatMap (boxT err ss hs)).foldl addU [] := by
    intro k
    induction k with
    | zero => intro _; rfl
    | succ k ih =>
      intro hk
      rw [refBoxes_succ, ih (by omega), refTo_dd h20 h80 h0 h4 hn (by omega), List.range_succ, List.flatMap_append, List.foldl_append]
      simp
  exact this 8 (Nat.le_refl _)
end
theorem suit_pts {ss hs : List Pt} {cx cy wx wy : Sp} {rs : List Rdg} {err : Int} (h : suitB (machB ss cx cy wx wy rs) ss hs err = true) : ss.all (okPt 20) = true ∧ hs.all (okPt 80) = true ∧ 0 ≤ err ∧ err ≤ 4 ∧ 1 ≤ ss.length := by
  obtain ⟨h1, h2, h3, h4, h5, h6⟩ := suit_small h
  unfold machB at h1
  simp only [Bool.and_eq_true, decide_eq_true_eq] at h1
  have h7 : allB ss 2 20 = true := by simp only [h1]
  unfold butB at h2
  simp only [Bool.and_eq_true, inB, decide_eq_true_eq] at h2
  have h8 := h2.1
  rw [allB_P] at h7 h8
  simp only [pointsB, Bool.and_eq_true] at h7 h8
  exact ⟨h7.1, h8.1, by omega, by omega, by omega⟩
structure HeldOk (m : Held) : Prop where
  b : 0 ≤ m.b ∧ m.b ≤ 12
  x : -104 ≤ m.x.lo ∧ m.x.lo ≤ 104 ∧ -104 ≤ m.x.hi ∧ m.x.hi ≤ 104
  y : -104 ≤ m.y.lo ∧ m.y.lo ≤ 104 ∧ -104 ≤ m.y.hi ∧ m.y.hi ≤ 104
theorem held_box {n : Nat} {y : Bx} (hn : n ≤ 12) (h : BdB y) : HeldOk ⟨n, y.x, y.y⟩ := ⟨by simp only; omega, h.a, h.b⟩
section
variable {st : List Pt} {cx cy wx wy : Sp} {rs : List Rdg} (h : machB st cx cy wx wy rs = true) {ms : List Held} (hm : ∀ m ∈ ms, HeldOk m)
include h hm
theorem good_xh : Good cx wx (ax0 cx wx rs ms).limits := by
  obtain ⟨a, b, c, d, e, f, g⟩ := good_x h
  refine ⟨a, b, c, d, e, f, fun m h' => ?_⟩
  rcases List.mem_append.1 h' with q | q
  · exact g m q
  · obtain ⟨k, hk, rfl⟩ := List.mem_map.1 q
    exact (hm k hk).x
theorem good_yh : Good cy wy (ax1 cy wy rs ms).limits := by
  obtain ⟨a, b, c, d, e, f, g⟩ := good_y h
  refine ⟨a, b, c, d, e, f, fun m h' => ?_⟩
  rcases List.mem_append.1 h' with q | q
  · exact g m q
  · obtain ⟨k, hk, rfl⟩ := List.mem_map.1 q
    exact (hm k hk).y
theorem held_blk : (marksOf rs ++ ms).all blkB = true := by
  refine List.all_eq_true.2 fun m h' => ?_
  rcases List.mem_append.1 h' with q | q
  · exact List.all_eq_true.1 (marks_blk h) m q
  · have := (hm m q).b
    simp [blkB, inB]
    omega
theorem held_pos : ∀ m ∈ marksOf rs ++ ms, 0 ≤ m.b := by
  intro m h'
  rcases List.mem_append.1 h' with q | q
  · exact marks_pos h m q
  · exact (hm m q).b.1
theorem axisXh : axisV ⟨cx, wx, []⟩ (ownS (·.x) (marksOf rs ++ ms) initS) = axO (boundsS (ax0 cx wx rs ms)) := by
  refine axis_ref (L := (ax0 cx wx rs ms).limits) (good_xh h hm) _ (by rw [ownS_len]; rfl) (fun k hk => ?_)
  rw [own_get _ k _ _ (by exact hk) (held_pos h hm), List.map_append, lims_155, init_get hk]
  rfl
theorem axisYh : axisV ⟨cy, wy, []⟩ (ownS (·.y) (marksOf rs ++ ms) initS) = axO (boundsS (ax1 cy wy rs ms)) := by
  refine axis_ref (L := (ax1 cy wy rs ms).limits) (good_yh h hm) _ (by rw [ownS_len]; rfl) (fun k hk => ?_)
  rw [own_get _ k _ _ (by exact hk) (held_pos h hm), List.map_append, lims_156, init_get hk]
  rfl
end
end Go.AM
set_option linter.unusedSectionVars false
set_option linter.unusedVariables false
set_option linter.unusedSimpArgs false
set_option maxRecDepth 100000
namespace Go.AM
open Go Go.Proofs
variable [Keep]
attribute [local irreducible] W WO WO1 WD WQ WT thenQ blockQ endR isRet retK Cl ClR
attribute [local irreducible] isNew roundQ RdR clR boundsS machB boxL suitB
structure MA where
  sa : AV
  ra : AV
  cx : Sp
  cy : Sp
  wx : Sp
  wy : Sp
  ps : sa.pur = true ∧ ra.pur = true
def MA.stops (m : MA) : List Pt := (slV ptC m.sa).getD []
def MA.rdgs (m : MA) : List Rdg := (slV rdgC m.ra).getD []
def MA.ok (m : MA) : Bool := (slV ptC m.sa).isSome && (slV rdgC m.ra).isSome
theorem MA.ok_is {m : MA} (h : m.ok = true) : slV ptC m.sa = some m.stops ∧ slV rdgC m.ra = some m.rdgs := by
  unfold MA.ok at h
  simp only [Bool.and_eq_true, Option.isSome_iff_exists] at h
  obtain ⟨⟨a, ha⟩, ⟨b, hb⟩⟩ := h
  simp [MA.stops, MA.rdgs, ha, hb]
def MA.mach (m : MA) : Bool := machB m.stops m.cx m.cy m.wx m.wy m.rdgs
def MA.suit (m : MA) (hs : List Pt) (err : Int) : Bool := suitB m.mach m.stops hs err
def MA.poss (m : MA) : Bool := possB m.cx m.cy m.wx m.wy m.rdgs
def MA.could (m : MA) (hs : List Pt) (err : Int) : List Nat := couldN (fun n => (boxL err m.stops hs).any (canB m.cx m.cy m.wx m.wy m.rdgs n)) 12
theorem MA.cells {m : MA} (h : m.ok = true) : m.sa.cells = [m.sa] ∧ m.ra.cells = [m.ra] := by
  obtain ⟨h1, h2⟩ := MA.ok_is h
  exact ⟨(slV_is h1).1.cells, (slV_is h2).1.cells⟩
end Go.AM
set_option linter.unusedSectionVars false
set_option linter.unusedVariables false
set_option linter.unusedSimpArgs false
set_option maxRecDepth 100000
namespace Go.AM
open Go Go.Proofs
variable [Keep]
attribute [local irreducible] W WO WO1 WD WQ WT thenQ blockQ endR isRet retK Cl ClR
attribute [local irreducible] roundQ RdR clR boundsS machB boxL suitB bothV axisV refBoxes
theorem bothV_held {st : List Pt} {cx cy wx wy : Sp} {rs : List Rdg} {ms : List Held} (h : machB st cx cy wx wy rs = true) (hm : ∀ m ∈ ms, HeldOk m) : ∃ x y, bothV cx cy wx wy (marksOf rs ++ ms) = .tuple [x, y, .bool ((boundsS (ax0 cx wx rs ms)).isSome && (boundsS (ax1 cy wy rs ms)).isSome)] ∧
    outV (some x) = some x ∧ outV (some y) = some y ∧ isTuple x = false ∧ isTuple y = false ∧ (∀ t, boundsS (ax0 cx wx rs ms) = some t → x = .vslice (t.map spC.enc)) ∧ (∀ t, boundsS (ax1 cy wy rs ms) = some t → y = .vslice (t.map spC.enc)) := by
  obtain ⟨x, e1, e2, e3, e4⟩ := axO_is (boundsS (ax0 cx wx rs ms))
  obtain ⟨y, f1, f2, f3, f4⟩ := axO_is (boundsS (ax1 cy wy rs ms))
  refine ⟨x, y, ?_, e2, f2, e3, f3, fun t ht => e4 t ht (boundsS_len ht), fun t ht => f4 t ht (boundsS_len ht)⟩
  unfold bothV
  rw [axisXh h hm, axisYh h hm, e1, f1]
  rfl
theorem K109 {X : Ctx} (hX : X.intr 109 = some (pureFn sp109)) (sa ra ha : AV) (ss hs : List Pt) (rs : List Rdg) (cx cy wx wy : Sp) (err : Int) (hl : slV ptC sa = some ss) (hr : slV rdgC ra = some rs) (hh : slV ptC ha = some hs) (hg : hs.length = ss.length ∧ 1 ≤ ss.length ∧ ss.length ≤ 4) (h : Heap) :
    Cl X 109 [.agg [sa, .int .i64 cx.lo, .int .i64 cx.hi, .int .i64 cy.lo, .int .i64 cy.hi, .int .i64 wx.lo, .int .i64 wx.hi, .int .i64 wy.lo, .int .i64 wy.hi, ra], .agg [ha, .int .i64 err]] h (.ret (slN ((refBoxes err ss hs 8).map markE)) h none) :=
  Cl.intr hX (by
    have e : (decide (hs.length = ss.length) && decide (1 ≤ ss.length) && decide (ss.length ≤ 4)) = true := by
      simp only [Bool.and_eq_true, decide_eq_true_eq]; omega
    simp [pureFn, AV.pur, AV.purL, sl_pur hl, sl_pur hr, sl_pur hh, sp109, hl, hr, hh, e])
theorem lev_small4 {n : Nat} (h : n ≤ 4) : (lev n n).length ≤ 24 := by
  match n, h with
  | 0, _ => decide
  | 1, _ => decide
  | 2, _ => decide
  | 3, _ => decide
  | 4, _ => decide
theorem refTo_lenB (err : Int) (ss hs : List Pt) (t : Nat) : ∀ (os : List (List Nat)) (out : List Bx), (refTo err ss hs t os out).length ≤ out.length + os.length := by
  intro os
  induction os with
  | nil => intro out; exact Nat.le_refl _
  | cons o r ih =>
    intro out
    have h1 := ih (addB out (refBx err ss hs t o ss.length))
    have h2 := addB_len out (refBx err ss hs t o ss.length)
    have e : refTo err ss hs t (o :: r) out = refTo err ss hs t r (addB out (refBx err ss hs t o ss.length)) := rfl
    rw [e, List.length_cons]
    omega
theorem refBoxes_lenB (err : Int) {ss hs : List Pt} (h : ss.length ≤ 4) : ∀ k, (refBoxes err ss hs k).length ≤ 24 * k := by
  intro k
  induction k with
  | zero => unfold refBoxes; simp
  | succ k ih =>
    rw [refBoxes_succ]
    have h1 := refTo_lenB err ss hs k (lev ss.length ss.length) (refBoxes err ss hs k)
    have h2 := lev_small4 h
    omega
theorem mkE_idx {l : List Bx} {k : Nat} {y : Bx} (h : l[k]? = some y) (H : Heap) : indexAddrV Tryz.prog H 156 (slN (l.map markE)) (.int .i64 ↑k) = some (.vptr [.int .i64 0, .int .i64 y.x.lo, .int .i64 y.x.hi, .int .i64 y.y.lo, .int .i64 y.y.hi]) :=
  (slN_is _).idx (x := markE y) Tryz.underlying156 ty_lay181 (by simp [h]) rfl
theorem any_ref {err : Int} {ss hs : List Pt} {cx cy wx wy : Sp} {rs : List Rdg} (h : suitB (machB ss cx cy wx wy rs) ss hs err = true) (p : Bx → Bool) : (refBoxes err ss hs 8).any p = (boxL err ss hs).any p ∧ ∀ y ∈ refBoxes err ss hs 8, BdB y := by
  obtain ⟨h1, h2, h3, h4, h5⟩ := suit_pts h
  rw [refBoxes_dd h1 h2 h3 h4 h5]
  refine ⟨dd_any p _, fun y hy => ?_⟩
  rw [dd_mem] at hy
  rcases hy with q | q
  · cases q
  · exact (boxL_bd h1 h2 h3 h4 h5 y q).1
noncomputable def cHT : FuncId → Option (List AV → Heap → Option (AV × Heap))
  | 105 => some (pureFn sp105)
  | 106 => some (pureFn sp106)
  | 109 => some (pureFn sp109)
  | 120 => some (pureFn sp120)
  | _ => none
theorem cHT_sound : Sound (dX cHT) := dX_sound (fun f g h => by
  unfold cHT at h
  split at h
  · cases h; exact F105
  · cases h; exact F106
  · cases h; exact F109
  · cases h; exact F120
  · cases h)
end Go.AM
set_option linter.unusedSimpArgs false
set_option linter.unusedVariables false
set_option linter.unusedSectionVars false
namespace Go.AM
open Go
variable [Keep]
def hullS (a s : Sp) : Sp := ⟨minV a.lo s.lo, maxV a.hi s.hi⟩
def hullB (a s : Bx) : Bx := ⟨hullS a.x s.x, hullS a.y s.y⟩
def prvStep (f : Bx → Option Bx) (acc : Option Bx) (y : Bx) : Option Bx := match f y with
  | none => acc
  | some s => match acc with
    | none => some s
    | some a => some (hullB a s)
def prvL (f : Bx → Option Bx) (l : List Bx) : Option Bx := l.foldl (prvStep f) none
theorem hullS_same (a : Sp) : hullS a a = a := Sp.ext2 (by simp [hullS, minV_eq]) (by simp [hullS, maxV_eq])
theorem hullB_same (a : Bx) : hullB a a = a := by simp [hullB, hullS_same]
theorem hullS_twice (a s : Sp) : hullS (hullS a s) s = hullS a s := Sp.ext2 (by simp only [hullS, minV_eq]; omega) (by simp only [hullS, maxV_eq]; omega)
theorem hullS_right (a s t : Sp) : hullS (hullS a s) t = hullS (hullS a t) s := Sp.ext2 (by simp only [hullS, minV_eq]; omega) (by simp only [hullS, maxV_eq]; omega)
theorem prv_same (f : Bx → Option Bx) (acc : Option Bx) (y : Bx) : prvStep f (prvStep f acc y) y = prvStep f acc y := by
  unfold prvStep
  cases f y with
  | none => rfl
  | some s => cases acc with
    | none => simp [hullB_same]
    | some a => simp [hullB, hullS_twice]
theorem prv_keep (f : Bx → Option Bx) (acc : Option Bx) (y z : Bx) (h : prvStep f acc y = acc) : prvStep f (prvStep f acc z) y = prvStep f acc z := by
  unfold prvStep at h ⊢
  cases hy : f y with
  | none => rfl
  | some s =>
    rw [hy] at h
    cases acc with
    | none => simp at h
    | some a =>
      simp only [Option.some.injEq] at h
      cases hz : f z with
      | none => simp [h]
      | some t =>
        simp only [Option.some.injEq]
        have h1 : hullS a.x s.x = a.x := congrArg Bx.x h
        have h2 : hullS a.y s.y = a.y := congrArg Bx.y h
        simp only [hullB]
        rw [hullS_right, h1, hullS_right, h2]
theorem prv_abs (f : Bx → Option Bx) (y : Bx) : ∀ (l : List Bx) (acc : Option Bx), prvStep f acc y = acc → prvStep f (l.foldl (prvStep f) acc) y = l.foldl (prvStep f) acc := by
  intro l
  induction l with
  | nil => intro acc h; exact h
  | cons z r ih => intro acc h; exact ih _ (prv_keep f acc y z h)
theorem prv_in (f : Bx → Option Bx) {y : Bx} : ∀ (l : List Bx) (acc : Option Bx), y ∈ l → prvStep f (l.foldl (prvStep f) acc) y = l.foldl (prvStep f) acc := by
  intro l
  induction l with
  | nil => intro acc h; cases h
  | cons z r ih =>
    intro acc h
    rcases List.mem_cons.1 h with rfl | h
    · exact prv_abs f y r _ (prv_same f acc y)
    · exact ih _ h
theorem prv_dd (f : Bx → Option Bx) : ∀ (l out : List Bx), prvL f (l.foldl addU out) = l.foldl (prvStep f) (prvL f out) := by
  intro l
  induction l with
  | nil => intro out; rfl
  | cons x r ih =>
    intro out
    rw [List.foldl_cons, ih, List.foldl_cons]
    congr 1
    unfold addU
    split
    · rename_i h
      exact (prv_in f out none (any_mem.1 h)).symm
    · unfold prvL
      rw [List.foldl_append]
      rfl
theorem prv_dd0 (f : Bx → Option Bx) (l : List Bx) : prvL f (l.foldl addU []) = prvL f l := prv_dd f l []
end Go.AM
set_option linter.unusedSimpArgs false
set_option linter.unusedVariables false
set_option linter.unusedSectionVars false
namespace Go.AM
open Go
variable [Keep]
def inS (n : Int) (s : Sp) : Prop := s.lo ≤ n ∧ n ≤ s.hi
theorem inS_inter {n : Int} {a b : Sp} (h1 : inS n a) (h2 : inS n b) : inS n (interS a b) := by
  unfold inS at *
  simp only [interS_lo, interS_hi]
  omega
theorem allS_in (n b : Int) : ∀ (L : List Lim) (s : Sp), (∀ m ∈ L, m.b = b → inS n m.sp) → inS n s → inS n (allS b L s) := by
  intro L
  induction L with
  | nil => intro s _ h; exact h
  | cons m r ih =>
    intro s hL h
    simp only [allS]
    split
    · rename_i hb
      exact ih _ (fun m' h' => hL m' (by simp [h'])) (inS_inter h (hL m (by simp) (by simpa using hb)))
    · exact ih _ (fun m' h' => hL m' (by simp [h'])) h
theorem lim_at {ax : Ax} {l : List Int} (hf : fitsA ax l = true) {k : Nat} : ∀ m ∈ ax.limits, m.b = (k : Int) → inS (l.getD k 0) m.sp := by
  intro m hm hb
  simp only [fitsA, Bool.and_eq_true] at hf
  have := List.all_eq_true.1 hf.2.2 m hm
  simp only [inL, inB, Bool.and_eq_true, decide_eq_true_eq, hb, Int.toNat_natCast] at this
  exact ⟨this.1, this.2⟩
theorem step_at {ax : Ax} {l : List Int} (hf : fitsA ax l = true) (hs : l.all okN = true) {k : Nat} (hk : k < 12) : ax.wear.lo ≤ l.getD (k + 1) 0 - l.getD k 0 ∧ l.getD (k + 1) 0 - l.getD k 0 ≤ ax.wear.hi := by
  simp only [fitsA, Bool.and_eq_true] at hf
  have := List.all_eq_true.1 hf.2.1 k (by simpa using hk)
  have a := num_small hs k
  have b := num_small hs (k + 1)
  have e : w64 (l.getD (k + 1) 0 - l.getD k 0) = l.getD (k + 1) 0 - l.getD k 0 := wrap_small (by omega) (by omega)
  simp only [stepB, inB, e, Bool.and_eq_true, decide_eq_true_eq] at this
  exact ⟨this.1, this.2⟩
theorem on_in {c w : Sp} {L : List Lim} (g : Good c w L) {l : List Int} (hf : fitsA ⟨c, w, L⟩ l = true) (hs : l.all okN = true) : ∀ k : Nat, k ≤ 12 → inS (l.getD k 0) (onS ⟨c, w, L⟩ k) := by
  intro k
  induction k with
  | zero =>
    intro _
    refine allS_in _ _ _ _ (lim_at hf (k := 0)) ?_
    have hf' := hf
    simp only [fitsA, inB, Bool.and_eq_true, decide_eq_true_eq] at hf'
    exact ⟨hf'.1.1, hf'.1.2⟩
  | succ k ih =>
    intro hk
    have h := ih (by omega)
    refine allS_in _ _ _ _ (lim_at hf (k := k + 1)) ?_
    obtain ⟨e1, e2⟩ := nxt_small g (by omega) (by omega) (on_bd g k (by omega))
    have hst := step_at hf hs (show k < 12 by omega)
    simp only [] at hst
    unfold inS at *
    rw [e1, e2]
    omega
def Amid (l : List Int) (out : List Sp) : Prop := out.length = 13 ∧ ∀ j : Nat, j ≤ 12 → inS (l.getD j 0) (out.getD j ⟨0, 0⟩) ∧ -1000 ≤ (out.getD j ⟨0, 0⟩).lo ∧ (out.getD j ⟨0, 0⟩).hi ≤ 1000
theorem back_in {c w : Sp} {L : List Lim} (g : Good c w L) {l : List Int} (hf : fitsA ⟨c, w, L⟩ l = true) (hs : l.all okN = true) : ∀ (n : Nat) (out : List Sp), n ≤ 12 → Amid l out → Amid l (backS ⟨c, w, L⟩ n out) := by
  intro n
  induction n with
  | zero => intro out _ h; exact h
  | succ n ih =>
    intro out hn h
    simp only [backS]
    refine ih _ (by omega) ⟨by simp [h.1], fun j hj => ?_⟩
    have w1 := g.w1
    have w2 := g.w2
    have w3 := g.w3
    have hm := h.2 (n + 1) (by omega)
    have hn1 := num_small hs (n + 1)
    have hst := step_at hf hs (show n < 12 by omega)
    simp only [] at hst
    by_cases hnj : n = j
    · subst hnj
      rw [getD_set_same (by rw [h.1]; omega)]
      have h0 := h.2 n (by omega)
      generalize out.getD (n + 1) ⟨0, 0⟩ = s at *
      generalize out.getD n ⟨0, 0⟩ = t at *
      have hm1 := hm.1
      have h01 := h0.1
      unfold inS at *
      have e1 : (prvS ⟨c, w, L⟩ s).lo = s.lo - w.hi := wrap_small (show -4611686018427387904 ≤ s.lo - w.hi by omega) (show s.lo - w.hi ≤ 4611686018427387904 by omega)
      have e2 : (prvS ⟨c, w, L⟩ s).hi = s.hi - w.lo := wrap_small (show -4611686018427387904 ≤ s.hi - w.lo by omega) (show s.hi - w.lo ≤ 4611686018427387904 by omega)
      simp only [interS_lo, interS_hi, e1, e2]
      omega
    · rw [getD_set_ne hnj]
      exact h.2 j hj
theorem on_list (ax : Ax) {k : Nat} (hk : k < 13) : ((List.range 13).map (onS ax)).getD k ⟨0, 0⟩ = onS ax k := by
  simp [List.getD, hk]
theorem bounds_good {c w : Sp} {L : List Lim} (g : Good c w L) : boundsS ⟨c, w, L⟩ = refS ⟨c, w, L⟩ := by
  have hc1 := g.c1
  have hc2 := g.c2
  have hc3 := g.c3
  have hw2 := g.w2
  have hw1 := g.w1
  have hw3 := g.w3
  refine bounds_ref ⟨c, w, L⟩ (by simp [empS]; omega) (fun k hk he => by
    obtain ⟨e1, e2⟩ := nxt_small g (by omega) (by omega) (on_bd g k (by omega))
    simp only [empS, decide_eq_false_iff_not] at *
    rw [e1, e2]
    omega)
theorem fits_within {c w : Sp} {L : List Lim} (g : Good c w L) {l : List Int} (hf : fitsA ⟨c, w, L⟩ l = true) (hs : l.all okN = true) : ∃ t, boundsS ⟨c, w, L⟩ = some t ∧ t.length = 13 ∧ ∀ j : Nat, j ≤ 12 → inS (l.getD j 0) (t.getD j ⟨0, 0⟩) := by
  have hM : Amid l (backS ⟨c, w, L⟩ 12 ((List.range 13).map (onS ⟨c, w, L⟩))) := by
    refine back_in g hf hs 12 _ (by omega) ⟨by simp, fun j hj => ?_⟩
    rw [on_list _ (by omega)]
    have := on_bd g j (by omega)
    exact ⟨on_in g hf hs j hj, by omega, by omega⟩
  rw [bounds_good g]
  unfold refS
  have hne : (backS ⟨c, w, L⟩ 12 ((List.range 13).map (onS ⟨c, w, L⟩))).any empS = false := by
    rw [List.any_eq_false]
    intro x hx
    obtain ⟨j, hj⟩ := List.mem_iff_getElem?.1 hx
    have hjl : j < 13 := by
      rcases Nat.lt_or_ge j 13 with h | h
      · exact h
      · rw [List.getElem?_eq_none (by rw [hM.1]; exact h)] at hj; cases hj
    have hg : (backS ⟨c, w, L⟩ 12 ((List.range 13).map (onS ⟨c, w, L⟩))).getD j ⟨0, 0⟩ = x := by simp [List.getD, hj]
    have := (hM.2 j (by omega)).1
    rw [hg] at this
    unfold inS at this
    simp only [empS, decide_eq_true_eq]
    omega
  rw [hne]
  exact ⟨_, rfl, hM.1, fun j hj => (hM.2 j hj).1⟩
end Go.AM
set_option linter.unusedSimpArgs false
set_option linter.unusedVariables false
set_option linter.unusedSectionVars false
namespace Go.AM
open Go
variable [Keep]
attribute [local irreducible] boundsS
def heldAt (cx cy wx wy : Sp) (rs : List Rdg) (at_ blank : Nat) (y : Bx) : Option Bx := match boundsS (ax0 cx wx rs [⟨at_, y.x, y.y⟩]), boundsS (ax1 cy wy rs [⟨at_, y.x, y.y⟩]) with
  | some a, some b => some ⟨a.getD blank ⟨0, 0⟩, b.getD blank ⟨0, 0⟩⟩
  | _, _ => none
theorem heldAt_can (cx cy wx wy : Sp) (rs : List Rdg) (at_ blank : Nat) (y : Bx) : (heldAt cx cy wx wy rs at_ blank y).isSome = canB cx cy wx wy rs at_ y := by
  unfold heldAt canB
  cases boundsS (ax0 cx wx rs [⟨at_, y.x, y.y⟩]) <;> cases boundsS (ax1 cy wy rs [⟨at_, y.x, y.y⟩]) <;> rfl
section
variable {ss : List Pt} {cx cy wx wy : Sp} {rs : List Rdg} {xs ys : List Int} (h : machB ss cx cy wx wy rs = true) (ht : truthB xs ys = true) (hf : fitsM cx cy wx wy rs xs ys = true)
include h ht hf
end
end Go.AM
set_option linter.unusedSectionVars false
set_option linter.unusedVariables false
set_option linter.unusedSimpArgs false
set_option maxRecDepth 100000
namespace Go.AM
open Go Go.Proofs
variable [Keep]
attribute [local irreducible] W WO WO1 WD WQ WT thenQ blockQ endR isRet retK Cl ClR
attribute [local irreducible] roundQ RdR clR boundsS machB boxL suitB
theorem ia147l_0 (H : Heap) (s : Tmp) (g off : Nat) : indexAddrV Tryz.prog H 147 (.lptr s g off) (.int .i64 0) = some (.lptr s g off) := by
  simp only [indexAddrV, Tryz.underlying147, ty_lay146]; rfl
theorem ia147l_1 (H : Heap) (s : Tmp) (g off : Nat) : indexAddrV Tryz.prog H 147 (.lptr s g off) (.int .i64 1) = some (.lptr s g (off + 1)) := by
  simp only [indexAddrV, Tryz.underlying147, ty_lay146]; rfl
theorem WO1.gen {X : Ctx} {ops : Array Oper} {o : Oper} {f : FuncId} {r : Bool} {e : Mp AV} {lm : Mp (Nat × List AV)} {hp : Heap} {df : List (AV × List AV)} {up : Option (AV × Bool)} {K P : AV → Fr → Prop} (Q : Mp AV → Mp (Nat × List AV) → Heap → Prop) (h : Q e lm hp)
    (k : ∀ e lm hp, Q e lm hp → WO1 X ops o (Fr.mk f r e lm hp df up) K P) : WO1 X ops o (Fr.mk f r e lm hp df up) K P := k e lm hp h
def bx4 (s : Option Bx) : List AV := let b := s.getD ⟨⟨0, 0⟩, ⟨0, 0⟩⟩; [.int .i64 b.x.lo, .int .i64 b.x.hi, .int .i64 b.y.lo, .int .i64 b.y.hi]
def prvI (s : Option Bx) (h : Heap) : Prop := 5 < h.next ∧ h.get 4 = some (.var (bx4 s)) ∧ h.get 5 = some (.var [.bool s.isSome])
def prvO (_ : Heap) (id : Nat) : Prop := id = 4 ∨ id = 5
theorem prv_ok : OwnOk prvI prvO := by
  refine ⟨fun s h h' i hn hg => ?_, fun s h id i ho => ?_⟩
  · obtain ⟨h1, h2, h3⟩ := i
    exact ⟨⟨by omega, (hg 4 (.inl rfl)).trans h2, (hg 5 (.inr rfl)).trans h3⟩, fun id ho => ho⟩
  · have := i.1
    rcases ho with rfl | rfl <;> omega
theorem foldS_true {α σ : Type} (f : σ → α → σ) : ∀ (l : List α) (s : σ), foldS (fun y s => (f s y, true)) l s = (l.foldl f s, true) := by
  intro l
  induction l with
  | nil => intro s; rfl
  | cons a r ih => intro s; simp only [foldS, if_true, List.foldl_cons]; exact ih _
theorem stR_go2 {σ : Type} {I D : σ → Heap → Prop} {own : Heap → Nat → Prop} {ex : Nat → Prop} {h h' : Heap} {x : σ × Bool} {s : σ} (e : x = (s, true)) (q : I s h' ∧ Rel own h h') : stR I D own ex h x (.ret (.bool true) h' none) := stR_go e q.1 q.2
def prvV (ok : Bool) (s : Option Bx) : AV := if ok then (match s with | some b => .tuple [spC.enc b.x, spC.enc b.y, .int .i64 0] | none => .tuple [.agg [.int .i64 0, .int .i64 0], .agg [.int .i64 0, .int .i64 0], .int .i64 7]) else .tuple [.agg [.int .i64 0, .int .i64 0], .agg [.int .i64 0, .int .i64 0], .int .i64 2]
theorem prvV_flat (ok : Bool) (s : Option Bx) : (prvV ok s).flat = true := by cases ok <;> cases s <;> rfl
def sp55 : List AV → Option AV
  | [.agg [sa, .int .i64 cxl, .int .i64 cxh, .int .i64 cyl, .int .i64 cyh, .int .i64 wxl, .int .i64 wxh, .int .i64 wyl, .int .i64 wyh, ra], .agg [ha, .int .i64 err], .int .i64 at_, .int .i64 blank] => match slV ptC sa, slV rdgC ra, slV ptC ha with
    | some ss, some rs, some hs => some (prvV (suitB (machB ss ⟨cxl, cxh⟩ ⟨cyl, cyh⟩ ⟨wxl, wxh⟩ ⟨wyl, wyh⟩ rs) ss hs err && inB at_ 1 12 && inB blank 0 12) (prvL (heldAt ⟨cxl, cxh⟩ ⟨cyl, cyh⟩ ⟨wxl, wxh⟩ ⟨wyl, wyh⟩ rs at_.toNat blank.toNat) (boxL err ss hs)))
    | _, _, _ => none
  | _ => none
theorem p55 : ∀ args v, sp55 args = some v → v.flat = true := by
  intro args v h
  unfold sp55 at h
  split at h
  · split at h
    · have h := Option.some.inj h
      subst h
      exact prvV_flat _ _
    · cases h
  · cases h
noncomputable def cHV : FuncId → Option (List AV → Heap → Option (AV × Heap))
  | 93 => some (pureFn sp93)
  | 96 => some (pureFn sp96)
  | 103 => some (onHeap h103)
  | 112 => some (pureFn sp112)
  | 116 => some (flatFn sp116)
  | 164 => some (flatFn sp164)
  | _ => none
theorem cHV_sound : Sound (dX cHV) := dX_sound (fun f g h => by
  unfold cHV at h
  split at h
  · cases h; exact F93
  · cases h; exact F96
  · cases h; exact H103
  · cases h; exact F112
  · cases h; exact F116
  · cases h; exact F164
  · cases h)
theorem kn_held {cx cy wx wy : Sp} {rs : List Rdg} {n j : Nat} {y : Bx} {s : Bx} (hj : j ≤ 12) (h : heldAt cx cy wx wy rs n j y = some s) : ∃ a b : List Sp, knV (ax0 cx wx rs [⟨n, y.x, y.y⟩]) (ax1 cy wy rs [⟨n, y.x, y.y⟩]) = .tuple [.agg [.vslice (a.map spC.enc), .vslice (b.map spC.enc)], .bool true] ∧ a[j]? = some s.x ∧ b[j]? = some s.y := by
  unfold heldAt at h
  split at h
  · rename_i a b ha hb
    have h := Option.some.inj h
    subst h
    have la := boundsS_len ha
    have lb := boundsS_len hb
    have nn : ∀ l : List Sp, l.length = 13 → slN (l.map spC.enc) = .vslice (l.map spC.enc) := by
      intro l hl
      cases l with
      | nil => simp at hl
      | cons x r => rfl
    refine ⟨a, b, ?_, ?_, ?_⟩
    · rw [knV_def, ha, hb, ← nn a la, ← nn b lb]; rfl
    · simp [List.getD, List.getElem?_eq_getElem (show j < a.length by omega)]
    · simp [List.getD, List.getElem?_eq_getElem (show j < b.length by omega)]
  · cases h
theorem kn_un {cx cy wx wy : Sp} {rs : List Rdg} {n j : Nat} {y : Bx} (h : heldAt cx cy wx wy rs n j y = none) : knV (ax0 cx wx rs [⟨n, y.x, y.y⟩]) (ax1 cy wy rs [⟨n, y.x, y.y⟩]) = .tuple [.agg [.nilslice, .nilslice], .bool false] := by
  refine kn_no ?_
  have := heldAt_can cx cy wx wy rs n j y
  rw [h] at this
  exact this.symm
set_option maxHeartbeats 8000000 in
theorem R55 : ∀ args v, sp55 args = some v → ClR (dX cHV) 55 args emptyHp (isRet v) := by
  intro args v h
  unfold sp55 at h
  split at h
  · rename_i sa cxl cxh cyl cyh wxl wxh wyl wyh ra ha err at_ blank
    split at h
    · rename_i ss rs hs hl hr hh
      have h := Option.some.inj h
      subst h
      have o1 := sl_out hh
      have o2 := sl_out hl
      have o3 := sl_out hr
      obtain ⟨one1, t1⟩ := sl_one hh
      obtain ⟨one2, t2⟩ := sl_one hl
      obtain ⟨one3, t3⟩ := sl_one hr
      have c1 : ha.cells = [ha] := (slV_is hh).1.cells
      have c2 : sa.cells = [sa] := (slV_is hl).1.cells
      have c3 : ra.cells = [ra] := (slV_is hr).1.cells
      simp only [AV.cells] at c1 c2 c3
      simp only [isTuple] at t1 t2 t3
      have k112 := fun hp => K112 (X := dX cHV) rfl sa ra ha ss hs rs ⟨cxl, cxh⟩ ⟨cyl, cyh⟩ ⟨wxl, wxh⟩ ⟨wyl, wyh⟩ err hl hr hh hp
      have hq : suitB (machB ss ⟨cxl, cxh⟩ ⟨cyl, cyh⟩ ⟨wxl, wxh⟩ ⟨wyl, wyh⟩ rs) ss hs err = true → hs.length = ss.length ∧ 2 ≤ ss.length ∧ ss.length ≤ 4 ∧ rs.length ≤ 4 := fun q => (suit_small q).2.2
      have HQ := Lib.hid hq
      have h102 := fun n m => C102 cHV rfl sa ra ⟨cxl, cxh⟩ ⟨cyl, cyh⟩ ⟨wxl, wxh⟩ ⟨wyl, wyh⟩ (slV_is hl).1.frz1 (slV_is hr).1.frz1 n m
      have h113 := fun pn pm => C113 cHV rfl sa ha err ss hs hl hh pn pm
      have H102 := Lib.hid h102
      have HC113 := Lib.hid h113
      have HL := Lib.hid hl
      have HH := Lib.hid hh
      have HR := Lib.hid hr
      generalize hsu : suitB (machB ss ⟨cxl, cxh⟩ ⟨cyl, cyh⟩ ⟨wxl, wxh⟩ ⟨wyl, wyh⟩ rs) ss hs err = su at *
      clear hq h102 h113 hl hh hr hsu
      refine ClR.walk (c := _) rfl Tryz.func55 rfl (by kernel_rfl) rfl isRet_fail ?_
      simp only [entryEnv, Nat.reduceAdd, emptyHp]
      have hcase : (su = false) ∨ (su = true ∧ inB at_ 1 12 = false) ∨ (su = true ∧ inB at_ 1 12 = true ∧ inB blank 0 12 = false) ∨ (su = true ∧ inB at_ 1 12 = true ∧ inB blank 0 12 = true) := by
        cases su <;> cases inB at_ 1 12 <;> cases inB blank 0 12 <;> simp
      rcases hcase with q1 | ⟨q1, q2⟩ | ⟨q1, q2, q3⟩ | ⟨q1, q2, q3⟩
      · subst q1
        simp only [prvV, Bool.false_and, Bool.false_eq_true, if_false]
        repeat' (first | refine goS ?_ | (apply U6; exact Z1; exact Z1; (focus (simp only [List.nil_append, List.append_nil]; first | exact K93 rfl _ _ _ _ | exact k112 _)); simp only [pM, pN, rR, rP]) | refine go2 (fun hh => ?_) (fun hh => ?_) | fail)
        all_goals simp only [resV_def (X := dX cHV) Tryz.func55, Tryz.results55, resultsV, resultV, go_sem, *, Nat.reduceLT, Int.reduceEq, Int.reduceBEq, Int.reduceLE, Int.reduceLT, Nat.reduceAdd, Nat.reduceBEq, Nat.reduceEqDiff, reduceIte, Nat.reduceLeDiff, Nat.reduceMul, Nat.reduceSub, reduceCtorEq, frzRes, dFrz, frzCells, isRet_ret, tupleOf]
      · subst q1
        simp only [prvV, q2, Bool.and_false, Bool.false_and, Bool.false_eq_true, if_false]
        repeat' (first | refine goS ?_ | (apply U6; exact Z1; exact Z1; (focus (simp only [List.nil_append, List.append_nil]; first | exact K93 rfl _ _ _ _ | exact k112 _)); simp only [pM, pN, rR, rP]) | refine go2 (fun hh => ?_) (fun hh => ?_) | fail)
        all_goals simp only [resV_def (X := dX cHV) Tryz.func55, Tryz.results55, resultsV, resultV, go_sem, *, Nat.reduceLT, Int.reduceEq, Int.reduceBEq, Int.reduceLE, Int.reduceLT, Nat.reduceAdd, Nat.reduceBEq, Nat.reduceEqDiff, reduceIte, Nat.reduceLeDiff, Nat.reduceMul, Nat.reduceSub, reduceCtorEq, frzRes, dFrz, frzCells, isRet_ret, tupleOf]
      · subst q1
        simp only [prvV, q2, q3, Bool.and_false, Bool.false_eq_true, if_false]
        repeat' (first | refine goS ?_ | (apply U6; exact Z1; exact Z1; (focus (simp only [List.nil_append, List.append_nil]; first | exact K93 rfl _ _ _ _ | exact k112 _)); simp only [pM, pN, rR, rP]) | refine go2 (fun hh => ?_) (fun hh => ?_) | fail)
        all_goals simp only [resV_def (X := dX cHV) Tryz.func55, Tryz.results55, resultsV, resultV, go_sem, *, Nat.reduceLT, Int.reduceEq, Int.reduceBEq, Int.reduceLE, Int.reduceLT, Nat.reduceAdd, Nat.reduceBEq, Nat.reduceEqDiff, reduceIte, Nat.reduceLeDiff, Nat.reduceMul, Nat.reduceSub, reduceCtorEq, frzRes, dFrz, frzCells, isRet_ret, tupleOf]
      · subst q1
        obtain ⟨hsl, hn2, hn4, hr4⟩ := HQ.out rfl
        simp only [prvV, q2, q3, Bool.and_self, if_true]
        obtain ⟨n, rfl, hn⟩ : ∃ n : Nat, at_ = n ∧ n ≤ 12 := by
          simp only [inB, Bool.and_eq_true, decide_eq_true_eq] at q2
          exact ⟨at_.toNat, by omega, by omega⟩
        obtain ⟨j, rfl, hj⟩ : ∃ j : Nat, blank = j ∧ j ≤ 12 := by
          simp only [inB, Bool.and_eq_true, decide_eq_true_eq] at q3
          exact ⟨blank.toNat, by omega, by omega⟩
        simp only [Int.toNat_natCast]
        have hy : ∀ (y : Bx) (hp : Heap) (mv : AV), mv.one = true → Cl (dX cHV) 103 [.agg [sa, .int .i64 cxl, .int .i64 cxh, .int .i64 cyl, .int .i64 cyh, .int .i64 wxl, .int .i64 wxh, .int .i64 wyl, .int .i64 wyh, ra, mv], .vslice [.agg [.int .i64 n, .int .i64 y.x.lo, .int .i64 y.x.hi, .int .i64 y.y.lo, .int .i64 y.y.hi]]] hp (.ret (knV (ax0 ⟨cxl, cxh⟩ ⟨wxl, wxh⟩ rs [⟨n, y.x, y.y⟩]) (ax1 ⟨cyl, cyh⟩ ⟨wyl, wyh⟩ rs [⟨n, y.x, y.y⟩])) hp none) :=
          fun y hp mv hmv => K103y (X := dX cHV) rfl sa ra mv ⟨cxl, cxh⟩ ⟨cyl, cyh⟩ ⟨wxl, wxh⟩ ⟨wyl, wyh⟩ rs HR.out one2 hmv (by omega) n y hp
        have HHY := Lib.hid hy
        generalize hres : prvL (heldAt ⟨cxl, cxh⟩ ⟨cyl, cyh⟩ ⟨wxl, wxh⟩ ⟨wyl, wyh⟩ rs n j) (boxL err ss hs) = res
        have HRES := Lib.hid hres
        have HSL := Lib.hid hsl
        have hn1 : 1 ≤ ss.length := by omega
        have hn8 : ss.length ≤ 8 := by omega
        clear hy hres hsl hr4 hn2 hn4 HQ
        repeat' (first | (refine W.label ?_; simp only [tN, bN, eN, true_and]) | refine go1 ?_ | (apply U6; exact Z1; exact Z1; (focus (simp only [List.nil_append, List.append_nil]; first | exact K93 rfl _ _ _ _ | exact k112 _ | exact H102.out _ _)); simp only [pM, pN, rR, rP]) | refine go2 (fun hh => ?_) (fun hh => ?_) | fail)
        refine WO1.gen (fun e lm hp => prvI none hp ∧ hp.get 0 = some (.var [.int .i64 ↑n]) ∧ hp.get 1 = some (.var [.int .i64 ↑j]) ∧ hp.get 3 = some (.var [sa, .int .i64 cxl, .int .i64 cxh, .int .i64 cyl, .int .i64 cyh, .int .i64 wxl, .int .i64 wxh, .int .i64 wyl, .int .i64 wyh, ra, .map 2]) ∧
          lm.get 8 = some (0, [.int .i64 0, .int .i64 0]) ∧ lm.get 9 = some (0, [.int .i64 0, .int .i64 0]) ∧ e.get 6 = some (.ptr 0 0) ∧ e.get 7 = some (.ptr 1 0) ∧ e.get 8 = some (.lptr 8 0 0) ∧ e.get 9 = some (.lptr 9 0 0) ∧ e.get 11 = some (.ptr 3 0) ∧ e.get 12 = some (.ptr 4 0) ∧ e.get 13 = some (.ptr 5 0) ∧ e.get 38 = some sa ∧ e.get 39 = some (.agg [ha, .int .i64 err])) ?_ ?_
        · refine ⟨⟨?_, ?_, ?_⟩, ?_, ?_, ?_, ?_, ?_, ?_, ?_, ?_, ?_, ?_, ?_, ?_, ?_, ?_⟩ <;> first | (simp only [bx4, go_sem, *, Nat.reduceLT, Int.reduceEq, Int.reduceBEq, Int.reduceLE, Int.reduceLT, Nat.reduceAdd, Nat.reduceBEq, Nat.reduceEqDiff, reduceIte, Nat.reduceLeDiff, Nat.reduceMul, Nat.reduceSub, reduceCtorEq]; done) | simp [bx4, hp_get, go_sem, *, Nat.reduceLT, Int.reduceEq, Int.reduceBEq, Int.reduceLE, Int.reduceLT, Nat.reduceAdd, Nat.reduceBEq, Nat.reduceEqDiff, reduceIte, Nat.reduceLeDiff, Nat.reduceMul, Nat.reduceSub, reduceCtorEq]
        rintro e lm ⟨qn, qm⟩ ⟨hi0, g0, g1, g3, l8, l9, h6, h7, h8, h9, h11, h12, h13, h38, h39⟩
        have hqn : 5 < qn := hi0.1
        have okc : OwnOk prvI prvO := prv_ok
        have no0 : ¬ prvO ⟨qn, qm⟩ 0 := by rintro (q | q) <;> cases q
        have no1 : ¬ prvO ⟨qn, qm⟩ 1 := by rintro (q | q) <;> cases q
        have no3 : ¬ prvO ⟨qn, qm⟩ 3 := by rintro (q | q) <;> cases q
        have G0 := Lib.hid g0
        have G1 := Lib.hid g1
        have G3 := Lib.hid g3
        have HI0 := Lib.hid hi0
        clear hi0 g0 g1 g3
        repeat' (first | (refine W.label ?_; simp only [tN, bN, eN, true_and]) | refine go1 ?_ | (apply U6; exact Z1; exact Z1; (focus (simp only [List.nil_append, List.append_nil]; first | exact HC113.out _ _)); simp only [pM, pN, rR, rP]) | refine go2 (fun hh => ?_) (fun hh => ?_) | fail)
        have X2 : ∀ blk, HExt ⟨qn, qm⟩ (Heap.new ⟨qn + 1 + 1, (qm.set qn (.var [sa])).set (qn + 1) (.var [ha, .int .i64 err])⟩ blk) := fun blk => by
          refine ⟨by simp only [Heap.new]; omega, fun id hid => ?_⟩
          simp only at hid
          rw [Heap.get_new, if_neg (by simp only; omega), hget_set, if_neg (by omega), hget_set, if_neg (by omega)]
          rfl
        have I2 := fun blk => (okc.ext _ _ _ HI0.out (X2 blk)).1
        have R2 := fun blk => okc.rel HI0.out (X2 blk)
        have F2 : ∀ blk id, qn ≤ id → ¬ prvO (Heap.new ⟨qn + 1 + 1, (qm.set qn (.var [sa])).set (qn + 1) (.var [ha, .int .i64 err])⟩ blk) id := fun blk id hid ho => by
          rcases ho with rfl | rfl <;> omega
        have N2 : ∀ blk, (Heap.new ⟨qn + 1 + 1, (qm.set qn (.var [sa])).set (qn + 1) (.var [ha, .int .i64 err])⟩ blk).next = qn + 1 + 1 + 1 := fun _ => rfl
        have GA : ∀ blk, (Heap.new ⟨qn + 1 + 1, (qm.set qn (.var [sa])).set (qn + 1) (.var [ha, .int .i64 err])⟩ blk).get qn = some (.var [sa]) := fun blk => by
          rw [Heap.get_new, if_neg (by simp only; omega), hget_set, if_neg (by omega), hget_set, if_pos rfl]
        have GB : ∀ blk, (Heap.new ⟨qn + 1 + 1, (qm.set qn (.var [sa])).set (qn + 1) (.var [ha, .int .i64 err])⟩ blk).get (qn + 1) = some (.var [ha, .int .i64 err]) := fun blk => by
          rw [Heap.get_new, if_neg (by simp only; omega), hget_set, if_pos rfl]
        have GL : ∀ blk, (Heap.new ⟨qn + 1 + 1, (qm.set qn (.var [sa])).set (qn + 1) (.var [ha, .int .i64 err])⟩ blk).get (qn + 1 + 1) = some blk := fun blk => by
          rw [Heap.get_new, if_pos rfl]
        apply W.rangeEnds (R := stU prvI (fun _ _ => False) prvO (fun id => id = qn + 1 + 1) _ (foldS (fun y s => (prvStep (heldAt ⟨cxl, cxh⟩ ⟨cyl, cyh⟩ ⟨wxl, wxh⟩ ⟨wyl, wyh⟩ rs n j) s y, true)) (boxL err ss hs) none))
        · exact Z1
        · refine G163 prvI (fun _ _ => False) prvO okc (fun y s => (prvStep (heldAt ⟨cxl, cxh⟩ ⟨cyl, cyh⟩ ⟨wxl, wxh⟩ ⟨wyl, wyh⟩ rs n j) s y, true)) cHV rfl rfl rfl rfl rfl rfl rfl rfl (qn + 1 + 1) qn (qn + 1) sa ha err ss hs HL.out HH.out HSL.out hn1 hn8 _ none
            (GA _) (GB _) (by rw [N2]; omega) (by rw [N2]; omega) (by rw [N2]; omega) (F2 _ _ (by omega)) (F2 _ _ (by omega)) (I2 _) (fun _ _ _ _ _ _ _ _ _ _ _ h => h.elim) ?_
          intro s y h1' i3 kx
          have kL := kx.2 (qn + 1 + 1) (by rw [N2]; omega) (F2 _ _ (by omega))
          have hL := kL.1.trans (GL _)
          have fL := kL.2
          have lL1 : qn + 1 + 1 < h1'.next := Nat.lt_of_lt_of_le (by rw [N2]; omega) kx.1
          have rel1 := (R2 _).trans kx
          have w0 := (rel1.2 0 (by simp only; omega) no0).1.trans G0.out
          have w1 := (rel1.2 1 (by simp only; omega) no1).1.trans G1.out
          have w3 := (rel1.2 3 (by simp only; omega) no3).1.trans G3.out
          obtain ⟨er, hE, hL⟩ : ∃ er, er = _ ∧ h1'.get (qn + 1 + 1) = some (.loop 55 er _ _ _ .ready none) := ⟨_, rfl, hL⟩
          have r6 : er.get 6 = some (.ptr 0 0) := by rw [hE, Mp.get_map]; simp [go_sem, *, noBox]
          have r7 : er.get 7 = some (.ptr 1 0) := by rw [hE, Mp.get_map]; simp [go_sem, *, noBox]
          have r11 : er.get 11 = some (.ptr 3 0) := by rw [hE, Mp.get_map]; simp [go_sem, *, noBox]
          have r12 : er.get 12 = some (.ptr 4 0) := by rw [hE, Mp.get_map]; simp [go_sem, *, noBox]
          have r13 : er.get 13 = some (.ptr 5 0) := by rw [hE, Mp.get_map]; simp [go_sem, *, noBox]
          have HHL := Lib.hid hL
          have HI3 := Lib.hid i3
          have HFL := Lib.hid fL
          refine round_ok' hL rfl ?_
          clear hE hL kL fL rel1 i3 kx X2 I2 R2 F2 N2 GA GB GL h6 h7 h8 h9 h11 h12 h13 h38 h39 l8 l9
          simp only [bxC]
          repeat' (first | refine goS ?_ | refine go2 (fun hh => ?_) (fun hh => ?_) | fail)
          rintro ⟨zn, zm⟩ hzn hzg hzL
          have q0 := (hzg 0 (by omega)).trans w0
          have q1 := (hzg 1 (by omega)).trans w1
          have q3 := (hzg 3 (by omega)).trans w3
          have bi := rnd_in okc HI3.out hzn hzg HFL.out
          have bg : ∀ s4 h', _ → Rel prvO ⟨zn, zm⟩ h' → _ := fun s4 h' => back_go okc (s4 := s4) (h' := h') HI3.out hzn hzg HHL.out HFL.out lL1
          have g4 := bi.1.2.1
          have g5 := bi.1.2.2
          have hz5 : 5 < zn := bi.1.1
          have HBI := Lib.hid bi
          have HBG := Lib.hid bg
          have HZL := Lib.hid hzL
          simp only [hp_get] at q0 q1 q3 g4 g5
          have hy := fun hp mv hmv => HHY.out y hp mv hmv
          clear hzn hzg hzL w0 w1 w3 bi bg
          cases hcan : heldAt ⟨cxl, cxh⟩ ⟨cyl, cyh⟩ ⟨wxl, wxh⟩ ⟨wyl, wyh⟩ rs n j y with
          | none =>
            rw [kn_un hcan] at hy
            have HY := Lib.hid hy
            have HCAN := Lib.hid hcan
            clear hy hcan
            repeat' (first | refine goS ?_ | (apply U6; exact Z1; exact Z1; (focus (simp only [List.nil_append, List.append_nil]; first | exact HY.out _ _ rfl)); simp only [pM, pN, rR, rP]) | refine go2 (fun hh => ?_) (fun hh => ?_) | fail)
            rw [roundQ_norm]
            simp only [endV, HZL.out]
            have := HBG.out s _ HBI.out.1 (Rel.refl _ _)
            exact stR_go (by simp [prvStep, HCAN.out]) this.1 this.2
          | some p =>
            obtain ⟨a, b, e1, hpa, hpb⟩ := kn_held hj hcan
            rw [e1] at hy
            have HY := Lib.hid hy
            have HCAN := Lib.hid hcan
            have hi1 := sp_idx hpa
            have hi2 := sp_idx hpb
            generalize a.map spC.enc = la at *
            generalize b.map spC.enc = lb at *
            have hw0 : IntKind.i64.wrap (0 + 1) = 1 := by decide
            have hw1 : IntKind.i64.wrap (1 + 1) = 2 := by decide
            have hia := ia147l_0
            have hib := ia147l_1
            have hic := ia169p_0
            have hid := ia169p_1
            clear hy hcan e1 hpa hpb
            cases s with
            | none =>
              simp only [bx4, Option.getD_none, Option.isSome_none] at g4 g5
              repeat' (first | (refine W.unroll ?_) | (apply Z7 (o := ⟨some 18, .alloc 48, 0, _, _, none⟩); exact rfl; exact rfl; exact Z1; simp only [pM, pN]) | (apply W.drawQ (id := 13) (l1 := [6, 0, 1, 2, 3, 4, 5]) (l2 := [7]); kernel_rfl; kernel_rfl; kernel_rfl; exact Z4) | (apply W.drawQ (id := 15) (l1 := [0, 1, 2, 3, 4, 5, 6, 7, 8, 9, 10, 11, 12, 13, 14]) (l2 := [15]); kernel_rfl; kernel_rfl; kernel_rfl; exact Z4) | refine go1 ?_ | (apply U6; exact Z1; exact Z1; (focus (simp only [List.nil_append, List.append_nil]; first | exact HY.out _ _ rfl)); simp only [pM, pN, rR, rP]) | refine go2 (fun hh => ?_) (fun hh => ?_) | fail)
              rw [roundQ_norm]
              have kL := HZL.out
              simp only [hp_get] at kL
              have d4 : ¬ 4 = qn + 1 + 1 := by omega
              have d5 : ¬ 5 = qn + 1 + 1 := by omega
              simp only [endV, hp_get, Mp.get_set, d4, d5, if_false, kL]
              refine stR_go2 (s := some p) (by simp [prvStep, HCAN.out]) (HBG.out _ _ ⟨?_, ?_, ?_⟩ ⟨Nat.le_refl _, fun id hid ho => ⟨?_, ho⟩⟩)
              · simp only; omega
              · simp [hp_get, Mp.get_set, bx4]
              · simp [hp_get, Mp.get_set]
              · have n4 : ¬ 4 = id := fun e => ho (.inl e.symm)
                have n5 : ¬ 5 = id := fun e => ho (.inr e.symm)
                simp only [hp_get, Mp.get_set, n4, n5, if_false]
            | some acc =>
              simp only [bx4, Option.getD_some, Option.isSome_some] at g4 g5
              repeat' (first | (refine W.unroll ?_) | (apply Z7 (o := ⟨some 18, .alloc 48, 0, _, _, none⟩); exact rfl; exact rfl; exact Z1; simp only [pM, pN]) | (apply W.drawQ (id := 13) (l1 := [6, 0, 1, 2, 3, 4, 5]) (l2 := [7]); kernel_rfl; kernel_rfl; kernel_rfl; exact Z4) | (apply W.drawQ (id := 15) (l1 := [0, 1, 2, 3, 4, 5, 6, 7, 8, 9, 10, 11, 12, 13, 14]) (l2 := [15]); kernel_rfl; kernel_rfl; kernel_rfl; exact Z4) | refine go1 ?_ | (apply U6; exact Z1; exact Z1; (focus (simp only [List.nil_append, List.append_nil]; first | exact HY.out _ _ rfl)); simp only [pM, pN, rR, rP]) | refine go2 (fun hh => ?_) (fun hh => ?_) | fail)
              rw [roundQ_norm]
              have kL := HZL.out
              simp only [hp_get] at kL
              have d4 : ¬ 4 = qn + 1 + 1 := by omega
              have d5 : ¬ 5 = qn + 1 + 1 := by omega
              simp only [endV, hp_get, Mp.get_set, d4, d5, if_false, kL]
              refine stR_go2 (s := some (hullB acc p)) (by simp [prvStep, HCAN.out]) (HBG.out _ _ ⟨?_, ?_, ?_⟩ ⟨Nat.le_refl _, fun id hid ho => ⟨?_, ho⟩⟩)
              · simp only; omega
              · simp [hp_get, Mp.get_set, bx4, hullB, hullS]
              · simp [hp_get, Mp.get_set]
              · have n4 : ¬ 4 = id := fun e => ho (.inl e.symm)
                have n5 : ¬ 5 = id := fun e => ho (.inr e.symm)
                simp only [hp_get, Mp.get_set, n4, n5, if_false]
        · intro r hcl hR
          rcases stU_or hR with ⟨s4, h', ex, rfl, i4, kr⟩ | ⟨s4, h', ex, rfl, d4, ke⟩
          · have kL := kr.2 (qn + 1 + 1) (by rw [N2]; omega) (F2 _ _ (by omega))
            have hL := kL.1.trans (GL _)
            have hfin := fun bl => fin_go okc (bl := bl) (h0 := ⟨qn, qm⟩) (L1 := qn + 1 + 1) (by simp only; omega) ((R2 _).trans kr) i4 kL.2
            refine W.rangeNorm rfl ?_ hcl hL (fun e => by cases e) ?_
            · first | exact Z2 | exact Z1
            clear hcl hL
            generalize hput : Heap.put h' _ _ = hz
            have hf : prvI s4 hz ∧ Rel prvO ⟨qn, qm⟩ hz := by rw [← hput]; exact hfin _
            have hs4 : res = s4 := by
              rw [foldS_true] at ex
              rw [← HRES.out]
              exact congrArg Prod.fst ex
            rw [hs4]
            obtain ⟨zn, zm⟩ := hz
            have g4 := hf.1.2.1
            have g5 := hf.1.2.2
            simp only [hp_get] at g4 g5
            have hic := ia169p_0
            have hid := ia169p_1
            clear hput hfin hf kL kr ex i4 hR X2 I2 R2 F2 N2 GA GB GL hs4
            simp only [bN, tN]
            cases s4 with
            | none =>
              simp only [bx4, Option.getD_none, Option.isSome_none] at g4 g5
              repeat' (first | (refine W.label ?_; simp only [tN, bN, eN, true_and]) | refine go1 ?_ | refine go2 (fun hh => ?_) (fun hh => ?_) | fail)
              all_goals simp only [resV_def (X := dX cHV) Tryz.func55, Tryz.results55, resultsV, resultV, go_sem, *, Nat.reduceLT, Int.reduceEq, Int.reduceBEq, Int.reduceLE, Int.reduceLT, Nat.reduceAdd, Nat.reduceBEq, Nat.reduceEqDiff, reduceIte, Nat.reduceLeDiff, Nat.reduceMul, Nat.reduceSub, reduceCtorEq, frzRes, dFrz, frzCells, isRet_ret, tupleOf]
            | some b =>
              simp only [bx4, Option.getD_some, Option.isSome_some] at g4 g5
              repeat' (first | (refine W.label ?_; simp only [tN, bN, eN, true_and]) | (apply W.draw (id := 21) (lc := [0, 1, 2, 3, 4, 5, 6]) (hot := [(2, 4), (3, 4)]); kernel_rfl; kernel_rfl; kernel_rfl; exact Z4) | (refine WD.cons rfl rfl ?_) | (refine WD.nil ⟨?_, ?_⟩; rotate_left; simp only [tN, bN, eN, true_and]) | (refine calmR rfl rfl rfl rfl rfl ?_ ?_; (focus (first | exact Z2 | exact Z1))) | (refine calmE rfl rfl rfl rfl rfl ?_ ?_; (focus (first | exact Z2 | exact Z1))) | (with_reducible refine calmEnd) | refine go1 ?_ | refine go2 (fun hh => ?_) (fun hh => ?_) | fail)
              all_goals simp only [resV_def (X := dX cHV) Tryz.func55, Tryz.results55, resultsV, resultV, go_sem, *, Nat.reduceLT, Int.reduceEq, Int.reduceBEq, Int.reduceLE, Int.reduceLT, Nat.reduceAdd, Nat.reduceBEq, Nat.reduceEqDiff, reduceIte, Nat.reduceLeDiff, Nat.reduceMul, Nat.reduceSub, reduceCtorEq, frzRes, dFrz, frzCells, isRet_ret, tupleOf]
              all_goals simp [spC]
          · exact d4.elim
    · cases h
  · cases h
theorem F55D : IntrFn Tryz.prog 55 (flatFnD sp55) := flatD_fn (X := dX cHV) cHV_sound p55 R55
end Go.AM
