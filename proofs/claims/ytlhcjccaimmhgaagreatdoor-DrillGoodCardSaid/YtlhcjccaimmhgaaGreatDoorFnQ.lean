/-
  Sure: the program's and the reference's.
-/
import Derived.Test.YtlhcjccaimmhgaaGreatDoorFnE
import Derived.Test.YtlhcjccaimmhgaaGreatDoorFnP
import Derived.Test.YtlhcjccaimmhgaaGreatDoorFnD
set_option linter.unusedSimpArgs false
set_option linter.unusedVariables false
set_option linter.unusedSectionVars false
namespace Go.AM
open Go
variable [Keep]
def inS (n : Int) (s : Sp) : Prop := s.lo ≤ n ∧ n ≤ s.hi
theorem inS_inter {n : Int} {a b : Sp} (h1 : inS n a) (h2 : inS n b) : inS n (interS a b) := by
  unfold inS at *
  simp only [interS_lo, interS_hi]
  omega
theorem allS_in (n b : Int) : ∀ (L : List Lim) (s : Sp), (∀ m ∈ L, m.b = b → inS n m.sp) → inS n s → inS n (allS b L s) := by
  intro L
  induction L with
  | nil => intro s _ h; exact h
  | cons m r ih =>
    intro s hL h
    simp only [allS]
    split
    · rename_i hb
      exact ih _ (fun m' h' => hL m' (by simp [h'])) (inS_inter h (hL m (by simp) (by simpa using hb)))
    · exact ih _ (fun m' h' => hL m' (by simp [h'])) h
theorem lim_at {ax : Ax} {l : List Int} (hf : fitsA ax l = true) {k : Nat} : ∀ m ∈ ax.limits, m.b = (k : Int) → inS (l.getD k 0) m.sp := by
  intro m hm hb
  simp only [fitsA, Bool.and_eq_true] at hf
  have := List.all_eq_true.1 hf.2.2 m hm
  simp only [inL, inB, Bool.and_eq_true, decide_eq_true_eq, hb, Int.toNat_natCast] at this
  exact ⟨this.1, this.2⟩
theorem step_at {ax : Ax} {l : List Int} (hf : fitsA ax l = true) (hs : l.all okN = true) {k : Nat} (hk : k < 12) : ax.wear.lo ≤ l.getD (k + 1) 0 - l.getD k 0 ∧ l.getD (k + 1) 0 - l.getD k 0 ≤ ax.wear.hi := by
  simp only [fitsA, Bool.and_eq_true] at hf
  have := List.all_eq_true.1 hf.2.1 k (by simpa using hk)
  have a := num_small hs k
  have b := num_small hs (k + 1)
  have e : w64 (l.getD (k + 1) 0 - l.getD k 0) = l.getD (k + 1) 0 - l.getD k 0 := wrap_small (by omega) (by omega)
  simp only [stepB, inB, e, Bool.and_eq_true, decide_eq_true_eq] at this
  exact ⟨this.1, this.2⟩
theorem on_in {c w : Sp} {L : List Lim} (g : Good c w L) {l : List Int} (hf : fitsA ⟨c, w, L⟩ l = true) (hs : l.all okN = true) : ∀ k : Nat, k ≤ 12 → inS (l.getD k 0) (onS ⟨c, w, L⟩ k) := by
  intro k
  induction k with
  | zero =>
    intro _
    refine allS_in _ _ _ _ (lim_at hf (k := 0)) ?_
    have hf' := hf
    simp only [fitsA, inB, Bool.and_eq_true, decide_eq_true_eq] at hf'
    exact ⟨hf'.1.1, hf'.1.2⟩
  | succ k ih =>
    intro hk
    have h := ih (by omega)
    refine allS_in _ _ _ _ (lim_at hf (k := k + 1)) ?_
    obtain ⟨e1, e2⟩ := nxt_small g (by omega) (by omega) (on_bd g k (by omega))
    have hst := step_at hf hs (show k < 12 by omega)
    simp only [] at hst
    unfold inS at *
    rw [e1, e2]
    omega
def Amid (l : List Int) (out : List Sp) : Prop := out.length = 13 ∧ ∀ j : Nat, j ≤ 12 → inS (l.getD j 0) (out.getD j ⟨0, 0⟩) ∧ -1000 ≤ (out.getD j ⟨0, 0⟩).lo ∧ (out.getD j ⟨0, 0⟩).hi ≤ 1000
theorem back_in {c w : Sp} {L : List Lim} (g : Good c w L) {l : List Int} (hf : fitsA ⟨c, w, L⟩ l = true) (hs : l.all okN = true) : ∀ (n : Nat) (out : List Sp), n ≤ 12 → Amid l out → Amid l (backS ⟨c, w, L⟩ n out) := by
  intro n
  induction n with
  | zero => intro out _ h; exact h
  | succ n ih =>
    intro out hn h
    simp only [backS]
    refine ih _ (by omega) ⟨by simp [h.1], fun j hj => ?_⟩
    have w1 := g.w1
    have w2 := g.w2
    have w3 := g.w3
    have hm := h.2 (n + 1) (by omega)
    have hn1 := num_small hs (n + 1)
    have hst := step_at hf hs (show n < 12 by omega)
    simp only [] at hst
    by_cases hnj : n = j
    · subst hnj
      rw [getD_set_same (by rw [h.1]; omega)]
      have h0 := h.2 n (by omega)
      generalize out.getD (n + 1) ⟨0, 0⟩ = s at *
      generalize out.getD n ⟨0, 0⟩ = t at *
      have hm1 := hm.1
      have h01 := h0.1
      unfold inS at *
      have e1 : (prvS ⟨c, w, L⟩ s).lo = s.lo - w.hi := wrap_small (show -4611686018427387904 ≤ s.lo - w.hi by omega) (show s.lo - w.hi ≤ 4611686018427387904 by omega)
      have e2 : (prvS ⟨c, w, L⟩ s).hi = s.hi - w.lo := wrap_small (show -4611686018427387904 ≤ s.hi - w.lo by omega) (show s.hi - w.lo ≤ 4611686018427387904 by omega)
      simp only [interS_lo, interS_hi, e1, e2]
      omega
    · rw [getD_set_ne hnj]
      exact h.2 j hj
theorem on_list (ax : Ax) {k : Nat} (hk : k < 13) : ((List.range 13).map (onS ax)).getD k ⟨0, 0⟩ = onS ax k := by
  simp [List.getD, hk]
theorem bounds_good {c w : Sp} {L : List Lim} (g : Good c w L) : boundsS ⟨c, w, L⟩ = refS ⟨c, w, L⟩ := by
  have hc1 := g.c1
  have hc2 := g.c2
  have hc3 := g.c3
  have hw2 := g.w2
  have hw1 := g.w1
  have hw3 := g.w3
  refine bounds_ref ⟨c, w, L⟩ (by simp [empS]; omega) (fun k hk he => by
    obtain ⟨e1, e2⟩ := nxt_small g (by omega) (by omega) (on_bd g k (by omega))
    simp only [empS, decide_eq_false_iff_not] at *
    rw [e1, e2]
    omega)
theorem fits_within {c w : Sp} {L : List Lim} (g : Good c w L) {l : List Int} (hf : fitsA ⟨c, w, L⟩ l = true) (hs : l.all okN = true) : ∃ t, boundsS ⟨c, w, L⟩ = some t ∧ t.length = 13 ∧ ∀ j : Nat, j ≤ 12 → inS (l.getD j 0) (t.getD j ⟨0, 0⟩) := by
  have hM : Amid l (backS ⟨c, w, L⟩ 12 ((List.range 13).map (onS ⟨c, w, L⟩))) := by
    refine back_in g hf hs 12 _ (by omega) ⟨by simp, fun j hj => ?_⟩
    rw [on_list _ (by omega)]
    have := on_bd g j (by omega)
    exact ⟨on_in g hf hs j hj, by omega, by omega⟩
  rw [bounds_good g]
  unfold refS
  have hne : (backS ⟨c, w, L⟩ 12 ((List.range 13).map (onS ⟨c, w, L⟩))).any empS = false := by
    rw [List.any_eq_false]
    intro x hx
    obtain ⟨j, hj⟩ := List.mem_iff_getElem?.1 hx
    have hjl : j < 13 := by
      rcases Nat.lt_or_ge j 13 with h | h
      · exact h
      · rw [List.getElem?_eq_none (by rw [hM.1]; exact h)] at hj; cases hj
    have hg : (backS ⟨c, w, L⟩ 12 ((List.range 13).map (onS ⟨c, w, L⟩))).getD j ⟨0, 0⟩ = x := by simp [List.getD, hj]
    have := (hM.2 j (by omega)).1
    rw [hg] at this
    unfold inS at this
    simp only [empS, decide_eq_true_eq]
    omega
  rw [hne]
  exact ⟨_, rfl, hM.1, fun j hj => (hM.2 j hj).1⟩
theorem true_x {st : List Pt} {cx cy wx wy : Sp} {rs : List Rdg} {xs ys : List Int} (h : machB st cx cy wx wy rs = true) (ht : truthB xs ys = true) (hf : fitsM cx cy wx wy rs xs ys = true) : ∃ t, boundsS (ax0 cx wx rs []) = some t ∧ t.length = 13 ∧ ∀ j : Nat, j ≤ 12 → inS (xs.getD j 0) (t.getD j ⟨0, 0⟩) := by
  simp only [fitsM, Bool.and_eq_true] at hf
  have e : ax0 cx wx rs [] = ⟨cx, wx, lims155 rs⟩ := by simp [ax0]
  rw [e]
  exact fits_within (good_x h) hf.1 (truth_of ht).2.2.1
theorem true_y {st : List Pt} {cx cy wx wy : Sp} {rs : List Rdg} {xs ys : List Int} (h : machB st cx cy wx wy rs = true) (ht : truthB xs ys = true) (hf : fitsM cx cy wx wy rs xs ys = true) : ∃ t, boundsS (ax1 cy wy rs []) = some t ∧ t.length = 13 ∧ ∀ j : Nat, j ≤ 12 → inS (ys.getD j 0) (t.getD j ⟨0, 0⟩) := by
  simp only [fitsM, Bool.and_eq_true] at hf
  have e : ax1 cy wy rs [] = ⟨cy, wy, lims156 rs⟩ := by simp [ax1]
  rw [e]
  exact fits_within (good_y h) hf.2 (truth_of ht).2.2.2
end Go.AM
namespace Go.AM
open Go
variable [Keep]
theorem back_eq (ax : Ax) : ∀ (n : Nat) (out : List Sp), n < out.length → ∀ j, j < n → (backS ax n out).getD j ⟨0, 0⟩ = interS (out.getD j ⟨0, 0⟩) (prvS ax ((backS ax n out).getD (j + 1) ⟨0, 0⟩)) := by
  intro n
  induction n with
  | zero => intro out _ j hj; omega
  | succ n ih =>
    intro out hn j hj
    simp only [backS]
    by_cases hjn : j < n
    · rw [ih _ (by simp; omega) j hjn, getD_set_ne (by omega)]
    · obtain rfl : j = n := by omega
      rw [back_keep _ _ _ _ (Nat.le_refl _), back_keep _ _ _ _ (by omega), getD_set_same (by omega), getD_set_ne (by omega)]
theorem any_not {l : List Sp} (h : l.any empS = false) {j : Nat} (hj : j < l.length) : (l.getD j ⟨0, 0⟩).lo ≤ (l.getD j ⟨0, 0⟩).hi := by
  have := List.any_eq_false.1 h l[j] (List.getElem_mem hj)
  simp only [empS, decide_eq_true_eq] at this
  simp [List.getD, hj]
  omega
structure Bnd (c w : Sp) (L : List Lim) (t : List Sp) : Prop where
  len : t.length = 13
  ne : ∀ j, j ≤ 12 → (t.getD j ⟨0, 0⟩).lo ≤ (t.getD j ⟨0, 0⟩).hi
  sub : ∀ j, j ≤ 12 → (onS ⟨c, w, L⟩ j).lo ≤ (t.getD j ⟨0, 0⟩).lo ∧ (t.getD j ⟨0, 0⟩).hi ≤ (onS ⟨c, w, L⟩ j).hi
  small : ∀ j, j ≤ 12 → -48 ≤ (t.getD j ⟨0, 0⟩).lo ∧ (t.getD j ⟨0, 0⟩).hi ≤ 48
  lo : ∀ j, j < 12 → (t.getD j ⟨0, 0⟩).lo = max (onS ⟨c, w, L⟩ j).lo ((t.getD (j + 1) ⟨0, 0⟩).lo - w.hi)
  hi : ∀ j, j < 12 → (t.getD j ⟨0, 0⟩).hi = min (onS ⟨c, w, L⟩ j).hi ((t.getD (j + 1) ⟨0, 0⟩).hi - w.lo)
theorem bnd_of {c w : Sp} {L : List Lim} (g : Good c w L) {t : List Sp} (ht : boundsS ⟨c, w, L⟩ = some t) : Bnd c w L t := by
  rw [bounds_good g] at ht
  unfold refS at ht
  split at ht
  · cases ht
  rename_i hne
  have hne : (backS ⟨c, w, L⟩ 12 ((List.range 13).map (onS ⟨c, w, L⟩))).any empS = false := by simpa using hne
  have ht := Option.some.inj ht
  have w1 := g.w1
  have w2 := g.w2
  have w3 := g.w3
  have hlen : t.length = 13 := by rw [← ht, back_len]; simp
  rw [ht] at hne
  have nep : ∀ j, j ≤ 12 → (t.getD j ⟨0, 0⟩).lo ≤ (t.getD j ⟨0, 0⟩).hi := fun j hj => any_not hne (by omega)
  have heq : ∀ j, j < 12 → t.getD j ⟨0, 0⟩ = interS (onS ⟨c, w, L⟩ j) (prvS ⟨c, w, L⟩ (t.getD (j + 1) ⟨0, 0⟩)) := fun j hj => by
    have := back_eq ⟨c, w, L⟩ 12 ((List.range 13).map (onS ⟨c, w, L⟩)) (by simp) j hj
    rw [ht, on_list _ (by omega)] at this
    exact this
  have hlast : t.getD 12 ⟨0, 0⟩ = onS ⟨c, w, L⟩ 12 := by
    have := back_keep ⟨c, w, L⟩ 12 ((List.range 13).map (onS ⟨c, w, L⟩)) 12 (Nat.le_refl _)
    rw [ht, on_list _ (by omega)] at this
    exact this
  have sub : ∀ j, j ≤ 12 → (onS ⟨c, w, L⟩ j).lo ≤ (t.getD j ⟨0, 0⟩).lo ∧ (t.getD j ⟨0, 0⟩).hi ≤ (onS ⟨c, w, L⟩ j).hi := fun j hj => by
    rcases Nat.lt_or_ge j 12 with q | q
    · rw [heq j q]
      simp only [interS_lo, interS_hi]
      omega
    · obtain rfl : j = 12 := by omega
      rw [hlast]
      omega
  have small : ∀ j, j ≤ 12 → -48 ≤ (t.getD j ⟨0, 0⟩).lo ∧ (t.getD j ⟨0, 0⟩).hi ≤ 48 := fun j hj => by
    have := on_bd g j (by omega)
    have := sub j hj
    omega
  have prv : ∀ j, j < 12 → (prvS ⟨c, w, L⟩ (t.getD (j + 1) ⟨0, 0⟩)).lo = (t.getD (j + 1) ⟨0, 0⟩).lo - w.hi ∧ (prvS ⟨c, w, L⟩ (t.getD (j + 1) ⟨0, 0⟩)).hi = (t.getD (j + 1) ⟨0, 0⟩).hi - w.lo := fun j hj => by
    have q := small (j + 1) (by omega)
    have e := nep (j + 1) (by omega)
    generalize t.getD (j + 1) ⟨0, 0⟩ = s at *
    exact ⟨wrap_small (show -4611686018427387904 ≤ s.lo - w.hi by omega) (show s.lo - w.hi ≤ 4611686018427387904 by omega), wrap_small (show -4611686018427387904 ≤ s.hi - w.lo by omega) (show s.hi - w.lo ≤ 4611686018427387904 by omega)⟩
  refine ⟨hlen, nep, sub, small, fun j hj => ?_, fun j hj => ?_⟩
  · rw [congrArg Sp.lo (heq j hj), interS_lo, (prv j hj).1]
  · rw [congrArg Sp.hi (heq j hj), interS_hi, (prv j hj).2]
end Go.AM
set_option maxRecDepth 100000
namespace Go.AM
open Go Go.Proofs
variable [Keep]
attribute [local irreducible] W WO WO1 WD WQ WT thenQ blockQ endR isRet retK Cl ClR
attribute [local irreducible] matchS
theorem eqH202 : Tryz.prog.stoodInHeld 202 = false := by kernel_rfl
theorem eqT202 (a b c d : Int) : eqT Tryz.prog eqDepth 202 (.agg [.int .i64 a, .int .i64 b]) (.agg [.int .i64 c, .int .i64 d]) = some (a == c && b == d) := by
  simp only [eqDepth, eqT, Tryz.underlying202, eqH202, eqFields]
  simp [eqFields, readT, ty_lay3, readAt, Tryz.underlying3]
  cases h1 : (a == c) <;> cases h2 : (b == d) <;> simp_all
theorem key202 (a b : Int) : keyOf Tryz.prog 202 (.agg [.int .i64 a, .int .i64 b]) = true := by
  unfold keyOf
  rw [eqT202]
  simp [keyV, scalarV]
def encT (tab : List (Pt × Bool)) : List (AV × AV) := tab.map fun e => (.agg [.int .i64 e.1.x, .int .i64 e.1.y], .bool e.2)
def getT (p : Pt) : List (Pt × Bool) → Option Bool
  | [] => none
  | (q, b) :: r => if ptEq p q then some b else getT p r
theorem find202 (p : Pt) : ∀ (tab : List (Pt × Bool)), findV Tryz.prog 202 (.agg [.int .i64 p.x, .int .i64 p.y]) (encT tab) = some ((getT p tab).map AV.bool) := by
  intro tab
  induction tab with
  | nil => rfl
  | cons e r ih =>
    obtain ⟨q, b⟩ := e
    show (match eqT Tryz.prog eqDepth 202 (.agg [.int .i64 p.x, .int .i64 p.y]) (.agg [.int .i64 q.x, .int .i64 q.y]) with | some true => _ | some false => _ | none => _) = _
    rw [eqT202]
    have he : (p.x == q.x && p.y == q.y) = ptEq p q := rfl
    rw [he]
    simp only [getT]
    cases ptEq p q with
    | true => rfl
    | false => exact ih
theorem put202 (p : Pt) (v : Bool) : ∀ (tab : List (Pt × Bool)), getT p tab = none → mapPut Tryz.prog 202 (.agg [.int .i64 p.x, .int .i64 p.y]) (.bool v) (encT tab) = some (encT (tab ++ [(p, v)])) := by
  intro tab
  induction tab with
  | nil => intro _; rfl
  | cons e r ih =>
    obtain ⟨q, b⟩ := e
    intro h
    simp only [getT] at h
    have he : (p.x == q.x && p.y == q.y) = ptEq p q := rfl
    cases hpq : ptEq p q with
    | true => rw [hpq] at h; simp at h
    | false =>
      rw [hpq] at h
      have h2 := ih (by simpa using h)
      show (match eqT Tryz.prog eqDepth 202 (.agg [.int .i64 p.x, .int .i64 p.y]) (.agg [.int .i64 q.x, .int .i64 q.y]) with | some true => _ | some false => _ | none => _) = _
      rw [eqT202, he, hpq]
      show (match mapPut Tryz.prog 202 (.agg [.int .i64 p.x, .int .i64 p.y]) (.bool v) (encT r) with | some l => _ | none => _) = _
      rw [h2]
      rfl
theorem look202 {h : Heap} {id : Nat} {tab : List (Pt × Bool)} (hg : h.get id = some (.mp (encT tab))) (p : Pt) : lookupV Tryz.prog h 149 (.map id) (.agg [.int .i64 p.x, .int .i64 p.y]) true = some (match getT p tab with | some b => .tuple [.bool b, .bool true] | none => .tuple [.bool false, .bool false]) := by
  simp only [lookupV, Tryz.underlying149, key202, if_true, entriesV, hg, find202]
  cases getT p tab with
  | none => simp [ty_zero4]
  | some b => rfl
def TabOk (G : Pt → Bool) (tab : List (Pt × Bool)) : Prop := ∀ e ∈ tab, e.2 = G e.1
theorem ptEq_eq {p q : Pt} (h : ptEq p q = true) : p = q := by
  obtain ⟨a, b⟩ := p
  obtain ⟨c, d⟩ := q
  simp only [ptEq, Bool.and_eq_true, beq_iff_eq] at h
  rw [h.1, h.2]
theorem tab_get {G : Pt → Bool} {p : Pt} {b : Bool} : ∀ {tab : List (Pt × Bool)}, TabOk G tab → getT p tab = some b → b = G p := by
  intro tab
  induction tab with
  | nil => intro _ h; cases h
  | cons e r ih =>
    obtain ⟨q, c⟩ := e
    intro ht h
    simp only [getT] at h
    split at h
    · rename_i hpq
      cases h
      rw [ptEq_eq hpq]
      exact ht (q, b) (by simp)
    · exact ih (fun e he => ht e (by simp [he])) h
section
variable {X : Ctx} {ops : Array Oper} {K P : AV → Fr → Prop} {F : Fr} {d : Option Tmp} {T : TypeId} {ps : String} {af : Array Edge}
theorem WO1.mapUp {t kt et : TypeId} {m k v : Operand} {id : Nat} {x y : AV} {es es' : List (AV × AV)} (hu : X.P.underlying t = some (.map kt et)) (hm : F.opv m = some (.map id)) (hk : F.opv k = some x) (hv : F.opv v = some y)
    (hkey : keyOf X.P kt x = true) (hg : F.hp.get id = some (.mp es)) (hp : mapPut X.P kt x y es = some es') (h : K undefA (({ F with hp := F.hp.put id (.mp es') } : Fr).put d undefA)) : WO1 X ops ⟨d, .mapUpdate t m k v, T, ps, af, none⟩ F K P := by
  refine U5 (v := undefA) (F' := { F with hp := F.hp.put id (.mp es') }) rfl (fun cl rd => ?_) h
  simp only [efV, Fr.mapUpdateE, hu, hm, hk, hv, hkey, if_true, hg, hp]
end
theorem und149 : Tryz.prog.underlying 149 = some (.map 202 4) := Tryz.underlying149
end Go.AM
set_option maxRecDepth 100000
namespace Go.AM
open Go Go.Proofs
variable [Keep]
attribute [local irreducible] W WO WO1 WD WQ WT thenQ blockQ endR isRet retK Cl ClR
attribute [local irreducible] matchS
def goodB (off : Int) (hs st : List Pt) (p : Pt) : Bool := (matchS off hs (movedL st p.x p.y)).isSome
def goodR (h : Heap) (id : Nat) (G : Pt → Bool) (b : Bool) (r : COut) : Prop := ∃ h' tab', r = .ret (.bool b) h' none ∧ h'.next = h.next ∧ h'.get id = some (.mp (encT tab')) ∧ TabOk G tab' ∧ ∀ j, j ≠ id → h'.get j = h.get j
theorem goodR_fail {h : Heap} {id : Nat} {G : Pt → Bool} {b : Bool} : ¬ goodR h id G b .fail := by rintro ⟨_, _, e, _⟩; cases e
set_option maxHeartbeats 2000000 in
theorem C160 (c : FuncId → Option (List AV → Heap → Option (AV × Heap))) (hc : c 160 = none) (hc1 : c 138 = some (pureFn sp138)) (hc2 : c 100 = some (pureFn sp100)) (sa ra ca : AV) (cx cy wx wy : Sp) (st hs : List Pt) (off : Int) (p : Pt) (id : Nat) (h : Heap) (tab : List (Pt × Bool))
    (hs1 : slV ptC sa = some st) (hone : ra.one = true) (htr : isTuple ra = false) (hor : outV (some ra) = some ra) (hs2 : slV ptC ca = some hs) (hlen : hs.length = st.length) (h1 : 1 ≤ st.length) (h8 : st.length ≤ 8) (hg : h.get id = some (.mp (encT tab))) (ht : TabOk (goodB off hs st) tab) :
    ClR (dX c) 160 [.agg [sa, .int .i64 cx.lo, .int .i64 cx.hi, .int .i64 cy.lo, .int .i64 cy.hi, .int .i64 wx.lo, .int .i64 wx.hi, .int .i64 wy.lo, .int .i64 wy.hi, ra, .map id], .agg [ca, .int .i64 off], .agg [.int .i64 p.x, .int .i64 p.y]] h (goodR h id (goodB off hs st) (goodB off hs st p)) := by
  have o1 := sl_out hs1
  have o2 := sl_out hs2
  have t1 := (slV_is hs1).1.tup
  have t2 := (slV_is hs2).1.tup
  have hlk := look202 hg p
  have hml : (movedL st p.x p.y).length = st.length := by simp [movedL]
  have hsm : slV ptC (slN ((movedL st p.x p.y).map ptC.enc)) = some (movedL st p.x p.y) := slV_slN (by rw [hml]; unfold maxL; omega)
  have k138 : ∀ h, Cl (dX c) 138 [sa, .agg [.int .i64 p.x, .int .i64 p.y]] h (.ret (slN ((movedL st p.x p.y).map ptC.enc)) h none) := fun h => K138 hc1 sa st p.x p.y hs1 h
  have k100 : ∀ h, Cl (dX c) 100 [.agg [ca, .int .i64 off], slN ((movedL st p.x p.y).map ptC.enc)] h (.ret (matchV (matchS off hs (movedL st p.x p.y))) h none) := fun h => Cl.intr (g := pureFn sp100) hc2 (by
    have e3 : 1 ≤ st.length ∧ st.length ≤ 8 := ⟨h1, h8⟩
    simp [pureFn, AV.pur, AV.purL, sl_pur hs2, sl_pur hsm, sp100, hs2, hsm, hml, hlen, e3])
  have o3 := sl_out hsm
  have HG := Lib.hid hg
  have HT := Lib.hid ht
  cases hgt : getT p tab with
  | some b =>
    have hb : goodB off hs st p = b := (tab_get ht hgt).symm
    rw [hgt] at hlk
    rw [hb]
    clear hg ht hgt hb hsm hs1 hs2 k138 k100 hml
    refine ClR.walk (c := _) hc Tryz.func160 rfl (by kernel_rfl) rfl goodR_fail ?_
    simp only [entryEnv, Nat.reduceAdd]
    repeat' (first | refine Y1 ?_ | refine U7 ?_ | refine U8 ?_ | refine U9 ?_ | refine Y2 ?_ | ((first | refine Y3 ?_ | refine Y8 ?_); simp only [tN, bN, eN, true_and]) | (apply U4; exact Z1; exact rfl; simp only [pM, pN, rR, rP]) | (refine J3 rfl rfl ?_ ?_; exact Z2) | (refine J4 rfl rfl ?_ ?_; exact Z2; simp only [pM, pN, rR, rP]) | (apply U3; exact rfl; exact rfl; exact Z1; refine ⟨fun hh => ?_, fun hh => ?_⟩ <;> try simp only [Bool.not_true, Bool.not_false, pM, pN] at hh ⊢) | (apply U5; exact rfl; exact Z3; simp only [pM, pN, rR, rP]) | (simp only [tP, bP, eP, true_and]) | (refine Y7 ?_; simp only [tR, bR, eR, true_and]) | (refine Y9 ?_; simp only [tX, bS, bO, Nat.reduceBEq, tN, bN]) | (refine Y4 ?_ ?_; exact Z2) | (refine Y5 ?_ ?_; exact Z2) | (apply Y6; exact Z1; refine ⟨fun hh => ?_, fun hh => ?_⟩))
    all_goals simp only [resV_def (X := dX c) Tryz.func160, Tryz.results160, resultsV, resultV, go_sem, *, Nat.reduceLT, Int.reduceEq, Int.reduceBEq, Int.reduceLE, Int.reduceLT, Nat.reduceAdd, Nat.reduceBEq, Nat.reduceEqDiff, reduceIte, Nat.reduceLeDiff, Nat.reduceMul, Nat.reduceSub, reduceCtorEq, frzRes, dFrz, frzCells, isRet_ret, tupleOf]
    exact ⟨h, tab, rfl, rfl, HG.out, HT.out, fun _ _ => rfl⟩
  | none =>
    rw [hgt] at hlk
    have hu149 := und149
    have hmp := fun v => put202 p v tab hgt
    have hgd : goodB off hs st p = (matchS off hs (movedL st p.x p.y)).isSome := rfl
    have HGD := Lib.hid hgd
    have HMP := Lib.hid hmp
    have HU := Lib.hid hu149
    rw [hgd]
    clear ht hgt hsm hs1 hs2 hml hgd hmp hu149
    generalize slN ((movedL st p.x p.y).map ptC.enc) = mw at *
    generalize matchS off hs (movedL st p.x p.y) = ms at *
    have hex : ∃ v w b, matchV ms = .tuple [v, w, .bool b] ∧ ms.isSome = b ∧ outV (some v) = some v ∧ outV (some w) = some w := by
      cases ms with
      | none => exact ⟨_, _, _, rfl, rfl, rfl, rfl⟩
      | some m =>
        obtain ⟨t, o⟩ := m
        exact ⟨_, _, _, rfl, rfl, rfl, (slN_nats o).1⟩
    obtain ⟨v, w, b, hv, hb, ov, ow⟩ := hex
    rw [hv] at k100
    rw [hb] at HGD ⊢
    clear hv hb
    refine ClR.walk (c := _) hc Tryz.func160 rfl (by kernel_rfl) rfl goodR_fail ?_
    simp only [entryEnv, Nat.reduceAdd]
    repeat' (first | (apply WO1.mapUp (kt := 202) (et := 4) (es' := encT (tab ++ [(p, b)])); (focus (exact HU.out)); exact Z1; exact Z1; exact Z1; (focus (exact key202 p.x p.y)); (focus (exact hg)); (focus (exact HMP.out b)); simp only [pM, pN]) | (apply W.drawQ (id := 3) (l1 := [0, 1, 2, 3, 4, 5, 6, 7, 8, 9, 10, 11]) (l2 := []); kernel_rfl; kernel_rfl; kernel_rfl; exact Z4) | (refine ⟨⟨trivial, trivial⟩, ?_⟩) | (refine ⟨⟨rfl, rfl⟩, ?_⟩) | (refine Z5 rfl rfl ?_) | (refine Z8 rfl rfl ?_) | (refine Z6 ?_) | (refine Z9 ?_; simp only [tN, bN, eN, true_and]) | (apply Z7; exact rfl; exact rfl; exact Z1; simp only [pM, pN]) | refine Y1 ?_ | refine U7 ?_ | refine U8 ?_ | refine U9 ?_ | refine Y2 ?_ | ((first | refine Y3 ?_ | refine Y8 ?_); simp only [tN, bN, eN, true_and]) | (apply U4; exact Z1; exact rfl; simp only [pM, pN, rR, rP]) | (refine J3 rfl rfl ?_ ?_; exact Z2) | (refine J4 rfl rfl ?_ ?_; exact Z2; simp only [pM, pN, rR, rP]) | (apply U3; exact rfl; exact rfl; exact Z1; refine ⟨fun hh => ?_, fun hh => ?_⟩ <;> try simp only [Bool.not_true, Bool.not_false, pM, pN] at hh ⊢) | (apply U6; exact Z1; exact Z1; (focus (simp only [List.nil_append, List.append_nil]; first | exact k138 _ | exact k100 _)); simp only [pM, pN, rR, rP]) | (apply U5; exact rfl; exact Z3; simp only [pM, pN, rR, rP]) | (simp only [tP, bP, eP, true_and]) | (refine Y7 ?_; simp only [tR, bR, eR, true_and]) | (refine Y9 ?_; simp only [tX, bS, bO, Nat.reduceBEq, tN, bN]) | (refine Y4 ?_ ?_; exact Z2) | (refine Y5 ?_ ?_; exact Z2) | (apply Y6; exact Z1; refine ⟨fun hh => ?_, fun hh => ?_⟩))
    all_goals simp only [resV_def (X := dX c) Tryz.func160, Tryz.results160, resultsV, resultV, go_sem, *, Nat.reduceLT, Int.reduceEq, Int.reduceBEq, Int.reduceLE, Int.reduceLT, Nat.reduceAdd, Nat.reduceBEq, Nat.reduceEqDiff, reduceIte, Nat.reduceLeDiff, Nat.reduceMul, Nat.reduceSub, reduceCtorEq, frzRes, dFrz, frzCells, isRet_ret, tupleOf]
    refine ⟨_, tab ++ [(p, b)], rfl, rfl, ?_, fun e he => ?_, fun j hj => ?_⟩
    · rw [Heap.get_put, if_pos rfl]
    · rcases List.mem_append.1 he with q | q
      · exact HT.out e q
      · simp at q
        subst q
        exact HGD.out.symm
    · rw [Heap.get_put, if_neg (fun e => hj e.symm)]
end Go.AM
set_option maxRecDepth 100000
namespace Go.AM
open Go Go.Proofs
variable [Keep]
attribute [local irreducible] W WO WO1 WD WQ WT thenQ blockQ endR isRet retK Cl ClR
attribute [local irreducible] matchS goodB goodR
def rowAny (G : Pt → Bool) (x y : Sp) (i : Nat) (k : Nat) : Bool := (List.range k).any fun b => G ⟨x.lo + i, y.lo + b⟩
def ny (y : Sp) : Nat := (y.hi - y.lo + 1).toNat
def upAny (G : Pt → Bool) (x y : Sp) (i : Nat) : Bool := (List.range i).any fun a => rowAny G x y a (ny y)
def sureW (G : Pt → Bool) (x y : Sp) : Int := if upAny (fun p => !G p) x y (ny x) then (if upAny G x y (ny x) then 2 else 1) else 3
theorem row_next (G : Pt → Bool) (x y : Sp) (i k : Nat) : rowAny G x y i (k + 1) = (rowAny G x y i k || G ⟨x.lo + i, y.lo + k⟩) := by
  simp only [rowAny, List.range_succ, List.any_append, List.any_cons, List.any_nil, Bool.or_false]
theorem up_next (G : Pt → Bool) (x y : Sp) (i : Nat) : upAny G x y (i + 1) = (upAny G x y i || rowAny G x y i (ny y)) := by
  simp only [upAny, List.range_succ, List.any_append, List.any_cons, List.any_nil, Bool.or_false]
def sureR (h : Heap) (id : Nat) (G : Pt → Bool) (w : Int) (r : COut) : Prop := ∃ h' tab', r = .ret (.int .i64 w) h' none ∧ h'.next = h.next ∧ h'.get id = some (.mp (encT tab')) ∧ TabOk G tab' ∧ ∀ j, j ≠ id → h'.get j = h.get j
theorem sureR_fail {h : Heap} {id : Nat} {G : Pt → Bool} {w : Int} : ¬ sureR h id G w .fail := by rintro ⟨_, _, e, _⟩; cases e
structure SpOk (x : Sp) : Prop where
  lo : -1000 ≤ x.lo
  lo2 : x.lo ≤ 1000
  hi : x.hi ≤ 1000
  hi2 : -1000 ≤ x.hi
theorem sp_cnt {x : Sp} (h : SpOk x) : IntKind.i64.wrap (x.hi - x.lo) = x.hi - x.lo ∧ IntKind.i64.wrap (x.hi - x.lo + 1) = x.hi - x.lo + 1 := by
  have := h.lo
  have := h.hi
  have := h.lo2
  have := h.hi2
  exact ⟨wrap_small (by omega) (by omega), wrap_small (by omega) (by omega)⟩
theorem ny_small {x : Sp} (h : SpOk x) : ny x ≤ 2001 := by
  have := h.lo
  have := h.hi
  unfold ny
  omega
theorem lt_ny {x : Sp} (i : Nat) : decide ((i : Int) < x.hi - x.lo + 1) = decide (i < ny x) := by
  unfold ny
  rw [Bool.eq_iff_iff]
  simp only [decide_eq_true_eq]
  omega
set_option maxHeartbeats 4000000 in
theorem C108 (c : FuncId → Option (List AV → Heap → Option (AV × Heap))) (hc0 : c 108 = none) (hc : c 160 = none) (hc1 : c 138 = some (pureFn sp138)) (hc2 : c 100 = some (pureFn sp100)) (sa ra ca : AV) (cx cy wx wy : Sp) (st hs : List Pt) (off : Int) (x y : Sp) (id : Nat) (h : Heap) (tab : List (Pt × Bool))
    (hs1 : slV ptC sa = some st) (hone : ra.one = true) (htr : isTuple ra = false) (hor : outV (some ra) = some ra) (hs2 : slV ptC ca = some hs) (hlen : hs.length = st.length) (h1 : 1 ≤ st.length) (h8 : st.length ≤ 8) (hx : SpOk x) (hy : SpOk y) (hg : h.get id = some (.mp (encT tab))) (ht : TabOk (goodB off hs st) tab) :
    ClR (dX c) 108 [.agg [sa, .int .i64 cx.lo, .int .i64 cx.hi, .int .i64 cy.lo, .int .i64 cy.hi, .int .i64 wx.lo, .int .i64 wx.hi, .int .i64 wy.lo, .int .i64 wy.hi, ra, .map id], .agg [ca, .int .i64 off], .agg [.int .i64 x.lo, .int .i64 x.hi], .agg [.int .i64 y.lo, .int .i64 y.hi]] h (sureR h id (goodB off hs st) (sureW (goodB off hs st) x y)) := by
  have o1 := sl_out hs1
  have o2 := sl_out hs2
  have t1 := (slV_is hs1).1.tup
  have t2 := (slV_is hs2).1.tup
  obtain ⟨w1, w2⟩ := sp_cnt hx
  obtain ⟨w3, w4⟩ := sp_cnt hy
  have hgood := fun (p : Pt) (hp : Heap) (tb : List (Pt × Bool)) (q1 : hp.get id = some (.mp (encT tb))) (q2 : TabOk (goodB off hs st) tb) => C160 c hc hc1 hc2 sa ra ca cx cy wx wy st hs off p id hp tb hs1 hone htr hor hs2 hlen h1 h8 q1 q2
  have HGOOD := Lib.hid hgood
  have HX := Lib.hid hx
  have HY := Lib.hid hy
  have HG := Lib.hid hg
  have HT := Lib.hid ht
  generalize goodB off hs st = G at *
  have HR := Lib.hid (show sureW G x y = (if upAny (fun p => !G p) x y (ny x) then (if upAny G x y (ny x) then 2 else 1) else 3) from rfl)
  generalize sureW G x y = res at *
  clear hgood hg ht hs1 hs2 hlen h1 h8 hx hy
  refine ClR.walk (c := _) hc0 Tryz.func108 rfl (by kernel_rfl) rfl sureR_fail ?_
  simp only [entryEnv, Nat.reduceAdd]
  repeat' (first | refine Y1 ?_ | refine U7 ?_ | refine U8 ?_ | refine U9 ?_ | refine Y2 ?_ | ((first | refine Y3 ?_ | refine Y8 ?_); simp only [tN, bN, eN, true_and]) | (apply U4; exact Z1; exact rfl; simp only [pM, pN, rR, rP]) | (refine J3 rfl rfl ?_ ?_; exact Z2) | (refine J4 rfl rfl ?_ ?_; exact Z2; simp only [pM, pN, rR, rP]) | (apply U3; exact rfl; exact rfl; exact Z1; refine ⟨fun hh => ?_, fun hh => ?_⟩ <;> try simp only [Bool.not_true, Bool.not_false, pM, pN] at hh ⊢) | (apply U5; exact rfl; exact Z3; simp only [pM, pN, rR, rP]) | (simp only [tP, bP, eP, true_and]) | (refine Y7 ?_; simp only [tR, bR, eR, true_and]) | (refine Y9 ?_; simp only [tX, bS, bO, Nat.reduceBEq, tN, bN]) | (refine Y4 ?_ ?_; exact Z2) | (refine Y5 ?_ ?_; exact Z2) | (apply Y6; exact Z1; refine ⟨fun hh => ?_, fun hh => ?_⟩))
  refine W.loopN (ny x) (fun i F => ∃ e lm hp tb, F = Fr.mk 108 false e lm hp [] none ∧ (hp.next = h.next ∧ hp.get id = some (.mp (encT tb)) ∧ TabOk G tb ∧ ∀ j, j ≠ id → hp.get j = h.get j) ∧
    lm.get 4 = some (0, [sa, .int .i64 cx.lo, .int .i64 cx.hi, .int .i64 cy.lo, .int .i64 cy.hi, .int .i64 wx.lo, .int .i64 wx.hi, .int .i64 wy.lo, .int .i64 wy.hi, ra, .map id]) ∧ lm.get 5 = some (0, [ca, .int .i64 off]) ∧ lm.get 6 = some (0, [.int .i64 x.lo, .int .i64 x.hi]) ∧ lm.get 7 = some (0, [.int .i64 y.lo, .int .i64 y.hi]) ∧
    e.get 4 = some (.lptr 4 0 0) ∧ e.get 5 = some (.lptr 5 0 0) ∧ e.get 6 = some (.lptr 6 0 0) ∧ e.get 7 = some (.lptr 7 0 0) ∧ e.get 9 = some (.bool (upAny G x y i)) ∧ e.get 10 = some (.bool (upAny (fun p => !G p) x y i)) ∧ e.get 18 = some (.int .i64 (x.hi - x.lo + 1)) ∧ e.get 19 = some (.int .i64 ↑i) ∧ i ≤ ny x) ?_ ?_
  · refine ⟨_, _, h, tab, rfl, ⟨rfl, HG.out, HT.out, fun _ _ => rfl⟩, ?_, ?_, ?_, ?_, ?_, ?_, ?_, ?_, ?_, ?_, ?_, ?_, Nat.zero_le _⟩ <;> first | exact Z2 | simp [go_sem, *, upAny]
  rintro i F ⟨e, lm, hp, tb, rfl, hhp, m4, m5, m6, m7, e4, e5, e6, e7, e9, e10, e18, e19, hi⟩
  have HHP := Lib.hid hhp
  clear hhp
  have hdl := lt_ny (x := x) i
  by_cases hlt : i < ny x
  · rw [decide_eq_true hlt] at hdl
    have hw := wrap_succ (m := ny x) hlt (by have := ny_small HX.out; unfold maxL; omega)
    have wi : IntKind.i64.wrap (x.lo + ↑i) = x.lo + ↑i := wrap_small (by have := HX.out.lo; omega) (by have := HX.out.lo2; have := ny_small HX.out; omega)
    repeat' (first | refine Y1 ?_ | refine U7 ?_ | refine U8 ?_ | refine U9 ?_ | refine Y2 ?_ | ((first | refine Y3 ?_ | refine Y8 ?_); simp only [tN, bN, eN, true_and]) | (apply U4; exact Z1; exact rfl; simp only [pM, pN, rR, rP]) | (refine J3 rfl rfl ?_ ?_; exact Z2) | (refine J4 rfl rfl ?_ ?_; exact Z2; simp only [pM, pN, rR, rP]) | (apply U3; exact rfl; exact rfl; exact Z1; refine ⟨fun hh => ?_, fun hh => ?_⟩ <;> try simp only [Bool.not_true, Bool.not_false, pM, pN] at hh ⊢) | (apply U5; exact rfl; exact Z3; simp only [pM, pN, rR, rP]) | (simp only [tP, bP, eP, true_and]) | (refine Y7 ?_; simp only [tR, bR, eR, true_and]) | (refine Y9 ?_; simp only [tX, bS, bO, Nat.reduceBEq, tN, bN]) | (refine Y4 ?_ ?_; exact Z2) | (refine Y5 ?_ ?_; exact Z2) | (apply Y6; exact Z1; refine ⟨fun hh => ?_, fun hh => ?_⟩))
    refine W.loopN (ny y) (fun k F => ∃ e lm hp tb, F = Fr.mk 108 false e lm hp [] none ∧ (hp.next = h.next ∧ hp.get id = some (.mp (encT tb)) ∧ TabOk G tb ∧ ∀ j, j ≠ id → hp.get j = h.get j) ∧
      lm.get 4 = some (0, [sa, .int .i64 cx.lo, .int .i64 cx.hi, .int .i64 cy.lo, .int .i64 cy.hi, .int .i64 wx.lo, .int .i64 wx.hi, .int .i64 wy.lo, .int .i64 wy.hi, ra, .map id]) ∧ lm.get 5 = some (0, [ca, .int .i64 off]) ∧ lm.get 6 = some (0, [.int .i64 x.lo, .int .i64 x.hi]) ∧ lm.get 7 = some (0, [.int .i64 y.lo, .int .i64 y.hi]) ∧
      e.get 4 = some (.lptr 4 0 0) ∧ e.get 5 = some (.lptr 5 0 0) ∧ e.get 6 = some (.lptr 6 0 0) ∧ e.get 7 = some (.lptr 7 0 0) ∧ e.get 9 = some (.bool (upAny G x y i || rowAny G x y i k)) ∧ e.get 10 = some (.bool (upAny (fun p => !G p) x y i || rowAny (fun p => !G p) x y i k)) ∧ e.get 11 = some (.int .i64 ↑i) ∧ e.get 18 = some (.int .i64 (x.hi - x.lo + 1)) ∧ e.get 19 = some (.int .i64 ↑i) ∧ e.get 27 = some (.int .i64 (y.hi - y.lo + 1)) ∧ e.get 28 = some (.int .i64 ↑k) ∧ k ≤ ny y) ?_ ?_
    · refine ⟨_, _, hp, tb, rfl, HHP.out, ?_, ?_, ?_, ?_, ?_, ?_, ?_, ?_, ?_, ?_, ?_, ?_, ?_, ?_, ?_, Nat.zero_le _⟩ <;> first | exact Z2 | simp [go_sem, *, rowAny]
    clear m4 m5 m6 m7 e4 e5 e6 e7 e9 e10 e18 e19 hdl HHP
    rintro k F ⟨e, lm, hp, tb, rfl, hhp, m4, m5, m6, m7, e4, e5, e6, e7, e9, e10, e11, e18, e19, e27, e28, hk⟩
    have HHP := Lib.hid hhp
    clear hhp
    have hdl := lt_ny (x := y) k
    by_cases hky : k < ny y
    · rw [decide_eq_true hky] at hdl
      have hw2 := wrap_succ (m := ny y) hky (by have := ny_small HY.out; unfold maxL; omega)
      have wk : IntKind.i64.wrap (y.lo + ↑k) = y.lo + ↑k := wrap_small (by have := HY.out.lo; omega) (by have := HY.out.lo2; have := ny_small HY.out; omega)
      have hcl0 := HGOOD.out ⟨x.lo + i, y.lo + k⟩ hp tb HHP.out.2.1 HHP.out.2.2.1
      unfold ClR at hcl0
      obtain ⟨r, hcl, hcr⟩ := hcl0
      unfold goodR at hcr
      obtain ⟨hp', tb', rfl, n1, n2, n3, n4⟩ := hcr
      have r1 := row_next G x y i k
      have r2 := row_next (fun p => !G p) x y i k
      have HN := Lib.hid (show hp'.next = h.next ∧ hp'.get id = some (.mp (encT tb')) ∧ TabOk G tb' ∧ ∀ j, j ≠ id → hp'.get j = h.get j from ⟨n1.trans HHP.out.1, n2, n3, fun j hj => (n4 j hj).trans (HHP.out.2.2.2 j hj)⟩)
      clear n1 n2 n3 n4
      cases hG : G ⟨x.lo + i, y.lo + k⟩ with
      | true =>
        rw [hG] at hcl r1
        simp only [hG, Bool.not_true, Bool.or_false, Bool.or_true] at r1 r2
        have R1 := Lib.hid r1
        have R2 := Lib.hid r2
        clear r1 r2 hG
        repeat' (first | (apply U6; exact Z1; exact Z1; (focus (exact hcl)); simp only [pM, pN, rR, rP]) | refine Y1 ?_ | refine U7 ?_ | refine U8 ?_ | refine U9 ?_ | refine Y2 ?_ | ((first | refine Y3 ?_ | refine Y8 ?_); simp only [tN, bN, eN, true_and]) | (apply U4; exact Z1; exact rfl; simp only [pM, pN, rR, rP]) | (refine J3 rfl rfl ?_ ?_; exact Z2) | (refine J4 rfl rfl ?_ ?_; exact Z2; simp only [pM, pN, rR, rP]) | (apply U3; exact rfl; exact rfl; exact Z1; refine ⟨fun hh => ?_, fun hh => ?_⟩ <;> try simp only [Bool.not_true, Bool.not_false, pM, pN] at hh ⊢) | (apply U5; exact rfl; exact Z3; simp only [pM, pN, rR, rP]) | (simp only [tP, bP, eP, true_and]) | (refine Y7 ?_; simp only [tR, bR, eR, true_and]) | (refine Y9 ?_; simp only [tX, bS, bO, Nat.reduceBEq, tN, bN]) | (refine Y4 ?_ ?_; exact Z2) | (refine Y5 ?_ ?_; exact Z2) | (apply Y6; exact Z1; refine ⟨fun hh => ?_, fun hh => ?_⟩))
        refine ⟨hky, _, _, hp', tb', rfl, HN.out, ?_, ?_, ?_, ?_, ?_, ?_, ?_, ?_, ?_, ?_, ?_, ?_, ?_, ?_, ?_, by omega⟩
        case refine_9 => rw [R1.out]; simp only [go_sem, *, Nat.reduceLT, Int.reduceEq, Int.reduceBEq, Int.reduceLE, Int.reduceLT, Nat.reduceAdd, Nat.reduceBEq, Nat.reduceEqDiff, reduceIte, Nat.reduceLeDiff, Nat.reduceMul, Nat.reduceSub, reduceCtorEq, Bool.or_true]
        case refine_10 => rw [R2.out]; simp only [go_sem, *, Nat.reduceLT, Int.reduceEq, Int.reduceBEq, Int.reduceLE, Int.reduceLT, Nat.reduceAdd, Nat.reduceBEq, Nat.reduceEqDiff, reduceIte, Nat.reduceLeDiff, Nat.reduceMul, Nat.reduceSub, reduceCtorEq]
        all_goals exact Z2
      | false =>
        rw [hG] at hcl r1
        simp only [hG, Bool.not_false, Bool.or_false, Bool.or_true] at r1 r2
        have R1 := Lib.hid r1
        have R2 := Lib.hid r2
        clear r1 r2 hG
        repeat' (first | (apply U6; exact Z1; exact Z1; (focus (exact hcl)); simp only [pM, pN, rR, rP]) | refine Y1 ?_ | refine U7 ?_ | refine U8 ?_ | refine U9 ?_ | refine Y2 ?_ | ((first | refine Y3 ?_ | refine Y8 ?_); simp only [tN, bN, eN, true_and]) | (apply U4; exact Z1; exact rfl; simp only [pM, pN, rR, rP]) | (refine J3 rfl rfl ?_ ?_; exact Z2) | (refine J4 rfl rfl ?_ ?_; exact Z2; simp only [pM, pN, rR, rP]) | (apply U3; exact rfl; exact rfl; exact Z1; refine ⟨fun hh => ?_, fun hh => ?_⟩ <;> try simp only [Bool.not_true, Bool.not_false, pM, pN] at hh ⊢) | (apply U5; exact rfl; exact Z3; simp only [pM, pN, rR, rP]) | (simp only [tP, bP, eP, true_and]) | (refine Y7 ?_; simp only [tR, bR, eR, true_and]) | (refine Y9 ?_; simp only [tX, bS, bO, Nat.reduceBEq, tN, bN]) | (refine Y4 ?_ ?_; exact Z2) | (refine Y5 ?_ ?_; exact Z2) | (apply Y6; exact Z1; refine ⟨fun hh => ?_, fun hh => ?_⟩))
        refine ⟨hky, _, _, hp', tb', rfl, HN.out, ?_, ?_, ?_, ?_, ?_, ?_, ?_, ?_, ?_, ?_, ?_, ?_, ?_, ?_, ?_, by omega⟩
        case refine_9 => rw [R1.out]; simp only [go_sem, *, Nat.reduceLT, Int.reduceEq, Int.reduceBEq, Int.reduceLE, Int.reduceLT, Nat.reduceAdd, Nat.reduceBEq, Nat.reduceEqDiff, reduceIte, Nat.reduceLeDiff, Nat.reduceMul, Nat.reduceSub, reduceCtorEq]
        case refine_10 => rw [R2.out]; simp only [go_sem, *, Nat.reduceLT, Int.reduceEq, Int.reduceBEq, Int.reduceLE, Int.reduceLT, Nat.reduceAdd, Nat.reduceBEq, Nat.reduceEqDiff, reduceIte, Nat.reduceLeDiff, Nat.reduceMul, Nat.reduceSub, reduceCtorEq, Bool.or_true]
        all_goals exact Z2
    · rw [decide_eq_false hky] at hdl
      have hkn : k = ny y := by omega
      have HK := Lib.hid hkn
      have U1 := Lib.hid (up_next G x y i)
      have U2 := Lib.hid (up_next (fun p => !G p) x y i)
      clear hkn hky hk
      repeat' (first | refine Y1 ?_ | refine U7 ?_ | refine U8 ?_ | refine U9 ?_ | refine Y2 ?_ | ((first | refine Y3 ?_ | refine Y8 ?_); simp only [tN, bN, eN, true_and]) | (apply U4; exact Z1; exact rfl; simp only [pM, pN, rR, rP]) | (refine J3 rfl rfl ?_ ?_; exact Z2) | (refine J4 rfl rfl ?_ ?_; exact Z2; simp only [pM, pN, rR, rP]) | (apply U3; exact rfl; exact rfl; exact Z1; refine ⟨fun hh => ?_, fun hh => ?_⟩ <;> try simp only [Bool.not_true, Bool.not_false, pM, pN] at hh ⊢) | (apply U5; exact rfl; exact Z3; simp only [pM, pN, rR, rP]) | (simp only [tP, bP, eP, true_and]) | (refine Y7 ?_; simp only [tR, bR, eR, true_and]) | (refine Y9 ?_; simp only [tX, bS, bO, Nat.reduceBEq, tN, bN]) | (refine Y4 ?_ ?_; exact Z2) | (refine Y5 ?_ ?_; exact Z2) | (apply Y6; exact Z1; refine ⟨fun hh => ?_, fun hh => ?_⟩))
      refine ⟨hlt, _, _, hp, tb, rfl, HHP.out, ?_, ?_, ?_, ?_, ?_, ?_, ?_, ?_, ?_, ?_, ?_, ?_, by omega⟩
      case refine_9 => rw [U1.out, ← HK.out]; simp only [go_sem, *, Nat.reduceLT, Int.reduceEq, Int.reduceBEq, Int.reduceLE, Int.reduceLT, Nat.reduceAdd, Nat.reduceBEq, Nat.reduceEqDiff, reduceIte, Nat.reduceLeDiff, Nat.reduceMul, Nat.reduceSub, reduceCtorEq]
      case refine_10 => rw [U2.out, ← HK.out]; simp only [go_sem, *, Nat.reduceLT, Int.reduceEq, Int.reduceBEq, Int.reduceLE, Int.reduceLT, Nat.reduceAdd, Nat.reduceBEq, Nat.reduceEqDiff, reduceIte, Nat.reduceLeDiff, Nat.reduceMul, Nat.reduceSub, reduceCtorEq]
      all_goals exact Z2
  · rw [decide_eq_false hlt] at hdl
    have hin : i = ny x := by omega
    subst hin
    clear hlt hi
    cases hn : upAny (fun p => !G p) x y (ny x) with
    | false =>
      rw [hn] at e10
      rw [hn] at HR
      repeat' (first | refine Y1 ?_ | refine U7 ?_ | refine U8 ?_ | refine U9 ?_ | refine Y2 ?_ | ((first | refine Y3 ?_ | refine Y8 ?_); simp only [tN, bN, eN, true_and]) | (apply U4; exact Z1; exact rfl; simp only [pM, pN, rR, rP]) | (refine J3 rfl rfl ?_ ?_; exact Z2) | (refine J4 rfl rfl ?_ ?_; exact Z2; simp only [pM, pN, rR, rP]) | (apply U3; exact rfl; exact rfl; exact Z1; refine ⟨fun hh => ?_, fun hh => ?_⟩ <;> try simp only [Bool.not_true, Bool.not_false, pM, pN] at hh ⊢) | (apply U5; exact rfl; exact Z3; simp only [pM, pN, rR, rP]) | (simp only [tP, bP, eP, true_and]) | (refine Y7 ?_; simp only [tR, bR, eR, true_and]) | (refine Y9 ?_; simp only [tX, bS, bO, Nat.reduceBEq, tN, bN]) | (refine Y4 ?_ ?_; exact Z2) | (refine Y5 ?_ ?_; exact Z2) | (apply Y6; exact Z1; refine ⟨fun hh => ?_, fun hh => ?_⟩))
      all_goals simp only [resV_def (X := dX c) Tryz.func108, Tryz.results108, resultsV, resultV, go_sem, *, Nat.reduceLT, Int.reduceEq, Int.reduceBEq, Int.reduceLE, Int.reduceLT, Nat.reduceAdd, Nat.reduceBEq, Nat.reduceEqDiff, reduceIte, Nat.reduceLeDiff, Nat.reduceMul, Nat.reduceSub, reduceCtorEq, frzRes, dFrz, frzCells, isRet_ret, tupleOf]
      exact ⟨hp, tb, by rw [HR.out]; rfl, HHP.out⟩
    | true =>
      rw [hn] at e10
      rw [hn] at HR
      cases hsm : upAny G x y (ny x) with
      | false =>
        rw [hsm] at e9
        rw [hsm] at HR
        repeat' (first | refine Y1 ?_ | refine U7 ?_ | refine U8 ?_ | refine U9 ?_ | refine Y2 ?_ | ((first | refine Y3 ?_ | refine Y8 ?_); simp only [tN, bN, eN, true_and]) | (apply U4; exact Z1; exact rfl; simp only [pM, pN, rR, rP]) | (refine J3 rfl rfl ?_ ?_; exact Z2) | (refine J4 rfl rfl ?_ ?_; exact Z2; simp only [pM, pN, rR, rP]) | (apply U3; exact rfl; exact rfl; exact Z1; refine ⟨fun hh => ?_, fun hh => ?_⟩ <;> try simp only [Bool.not_true, Bool.not_false, pM, pN] at hh ⊢) | (apply U5; exact rfl; exact Z3; simp only [pM, pN, rR, rP]) | (simp only [tP, bP, eP, true_and]) | (refine Y7 ?_; simp only [tR, bR, eR, true_and]) | (refine Y9 ?_; simp only [tX, bS, bO, Nat.reduceBEq, tN, bN]) | (refine Y4 ?_ ?_; exact Z2) | (refine Y5 ?_ ?_; exact Z2) | (apply Y6; exact Z1; refine ⟨fun hh => ?_, fun hh => ?_⟩))
        all_goals simp only [resV_def (X := dX c) Tryz.func108, Tryz.results108, resultsV, resultV, go_sem, *, Nat.reduceLT, Int.reduceEq, Int.reduceBEq, Int.reduceLE, Int.reduceLT, Nat.reduceAdd, Nat.reduceBEq, Nat.reduceEqDiff, reduceIte, Nat.reduceLeDiff, Nat.reduceMul, Nat.reduceSub, reduceCtorEq, frzRes, dFrz, frzCells, isRet_ret, tupleOf]
        exact ⟨hp, tb, by rw [HR.out]; rfl, HHP.out⟩
      | true =>
        rw [hsm] at e9
        rw [hsm] at HR
        repeat' (first | refine Y1 ?_ | refine U7 ?_ | refine U8 ?_ | refine U9 ?_ | refine Y2 ?_ | ((first | refine Y3 ?_ | refine Y8 ?_); simp only [tN, bN, eN, true_and]) | (apply U4; exact Z1; exact rfl; simp only [pM, pN, rR, rP]) | (refine J3 rfl rfl ?_ ?_; exact Z2) | (refine J4 rfl rfl ?_ ?_; exact Z2; simp only [pM, pN, rR, rP]) | (apply U3; exact rfl; exact rfl; exact Z1; refine ⟨fun hh => ?_, fun hh => ?_⟩ <;> try simp only [Bool.not_true, Bool.not_false, pM, pN] at hh ⊢) | (apply U5; exact rfl; exact Z3; simp only [pM, pN, rR, rP]) | (simp only [tP, bP, eP, true_and]) | (refine Y7 ?_; simp only [tR, bR, eR, true_and]) | (refine Y9 ?_; simp only [tX, bS, bO, Nat.reduceBEq, tN, bN]) | (refine Y4 ?_ ?_; exact Z2) | (refine Y5 ?_ ?_; exact Z2) | (apply Y6; exact Z1; refine ⟨fun hh => ?_, fun hh => ?_⟩))
        all_goals simp only [resV_def (X := dX c) Tryz.func108, Tryz.results108, resultsV, resultV, go_sem, *, Nat.reduceLT, Int.reduceEq, Int.reduceBEq, Int.reduceLE, Int.reduceLT, Nat.reduceAdd, Nat.reduceBEq, Nat.reduceEqDiff, reduceIte, Nat.reduceLeDiff, Nat.reduceMul, Nat.reduceSub, reduceCtorEq, frzRes, dFrz, frzCells, isRet_ret, tupleOf]
        exact ⟨hp, tb, by rw [HR.out]; rfl, HHP.out⟩
end Go.AM
set_option maxRecDepth 100000
namespace Go.AM
open Go Go.Proofs
variable [Keep]
attribute [local irreducible] W WO WO1 WD WQ WT thenQ blockQ endR isRet retK Cl ClR
noncomputable def cGP : FuncId → Option (List AV → Heap → Option (AV × Heap))
  | 99 => some (pureFn sp99)
  | 101 => some (flatFn sp101)
  | 103 => some (onHeap h103)
  | _ => none
theorem cGP_sound : Sound (dX cGP) := dX_sound (fun f g h => by
  unfold cGP at h
  split at h
  · cases h; exact F99
  · cases h; exact F101
  · cases h; exact H103
  · cases h)
def askV (ok : Bool) (A B : Option (List Sp)) : AV :=
  if ok then (match A, B with
    | some a, some b => .tuple [.agg [slN (a.map spC.enc), slN (b.map spC.enc)], .int .i64 0]
    | _, _ => .tuple [.agg [.nilslice, .nilslice], .int .i64 7]) else .tuple [.agg [.nilslice, .nilslice], .int .i64 2]
def askOk (hs st : List Pt) (off : Int) (m fine : Bool) : Bool := measB hs off && m && decide (st.length = hs.length) && fine
def sp107 : List AV → Option AV
  | [.agg [ca, .int .i64 off], .agg [sa, .int .i64 cxl, .int .i64 cxh, .int .i64 cyl, .int .i64 cyh, .int .i64 wxl, .int .i64 wxh, .int .i64 wyl, .int .i64 wyh, ra], .bool fine] => match slV ptC ca, slV ptC sa, slV rdgC ra with
    | some hs, some st, some rs => some (askV (askOk hs st off (machB st ⟨cxl, cxh⟩ ⟨cyl, cyh⟩ ⟨wxl, wxh⟩ ⟨wyl, wyh⟩ rs) fine) (boundsS (ax0 ⟨cxl, cxh⟩ ⟨wxl, wxh⟩ rs [])) (boundsS (ax1 ⟨cyl, cyh⟩ ⟨wyl, wyh⟩ rs [])))
    | _, _, _ => none
  | _ => none
theorem p107 : ∀ args v, sp107 args = some v → v.pur = true := by
  intro args v h
  unfold sp107 at h
  split at h
  · split at h
    · have h := Option.some.inj h
      subst h
      unfold askV
      split
      · split
        · simp [AV.pur, AV.purL, slN_pur (enc_pur spC _)]
        · rfl
      · rfl
    · cases h
  · cases h
attribute [local irreducible] boundsS machB measB
set_option maxHeartbeats 4000000 in
theorem F107 : IntrFn Tryz.prog 107 (pureFn sp107) := by
  refine pure_fn (X := dX cGP) cGP_sound p107 ?_
  intro args v h
  unfold sp107 at h
  split at h
  · rename_i ca off sa cxl cxh cyl cyh wxl wxh wyl wyh ra fine
    split at h
    · rename_i hs st rs hc hl hr
      have h := Option.some.inj h
      subst h
      have o1 := sl_out hc
      have o2 := sl_out hl
      have o3 := sl_out hr
      have l1 := sl_len hc
      have l2 := sl_len hl
      obtain ⟨one1, t1⟩ := sl_one hc
      obtain ⟨one2, t2⟩ := sl_one hl
      obtain ⟨one3, t3⟩ := sl_one hr
      have k99 : ∀ h, Cl (dX cGP) 99 [.agg [ca, .int .i64 off]] h (.ret (.bool (measB hs off)) h none) := fun h => Cl.intr (g := pureFn sp99) rfl (by simp [pureFn, AV.pur, AV.purL, sl_pur hc, sp99, hc])
      have k101 := fun hp => K101 (X := dX cGP) rfl sa ra st rs ⟨cxl, cxh⟩ ⟨cyl, cyh⟩ ⟨wxl, wxh⟩ ⟨wyl, wyh⟩ hl hr hp
      have hk : ∀ (hp : Heap) (mv : AV), mv.one = true → Cl (dX cGP) 103 [.agg [sa, .int .i64 cxl, .int .i64 cxh, .int .i64 cyl, .int .i64 cyh, .int .i64 wxl, .int .i64 wxh, .int .i64 wyl, .int .i64 wyh, ra, mv], .nilslice] hp (.ret (knV (ax0 ⟨cxl, cxh⟩ ⟨wxl, wxh⟩ rs []) (ax1 ⟨cyl, cyh⟩ ⟨wyl, wyh⟩ rs [])) hp none) :=
        fun hp mv hmv => K103h (X := dX cGP) rfl sa ra mv ⟨cxl, cxh⟩ ⟨cyl, cyh⟩ ⟨wxl, wxh⟩ ⟨wyl, wyh⟩ rs hr one2 hmv hp
      have h102 := fun n m => C102 cGP rfl sa ra ⟨cxl, cxh⟩ ⟨cyl, cyh⟩ ⟨wxl, wxh⟩ ⟨wyl, wyh⟩ (slV_is hl).1.frz1 (slV_is hr).1.frz1 n m
      have HOK := Lib.hid (show askOk hs st off (machB st ⟨cxl, cxh⟩ ⟨cyl, cyh⟩ ⟨wxl, wxh⟩ ⟨wyl, wyh⟩ rs) fine = (measB hs off && machB st ⟨cxl, cxh⟩ ⟨cyl, cyh⟩ ⟨wxl, wxh⟩ ⟨wyl, wyh⟩ rs && decide (st.length = hs.length) && fine) from rfl)
      generalize askOk hs st off (machB st ⟨cxl, cxh⟩ ⟨cyl, cyh⟩ ⟨wxl, wxh⟩ ⟨wyl, wyh⟩ rs) fine = ok at *
      generalize machB st ⟨cxl, cxh⟩ ⟨cyl, cyh⟩ ⟨wxl, wxh⟩ ⟨wyl, wyh⟩ rs = b2 at *
      generalize measB hs off = b1 at *
      generalize ax0 ⟨cxl, cxh⟩ ⟨wxl, wxh⟩ rs [] = A at *
      generalize ax1 ⟨cyl, cyh⟩ ⟨wyl, wyh⟩ rs [] = B at *
      have H102 := Lib.hid h102
      clear hc hl hr h102
      refine ClR.walk (c := _) rfl Tryz.func107 rfl (by kernel_rfl) rfl isRet_fail ?_
      simp only [entryEnv, Nat.reduceAdd, emptyHp]
      have hcase : (b1 = false) ∨ (b1 = true ∧ b2 = false) ∨ (b1 = true ∧ b2 = true ∧ ((st.length : Int) != (hs.length : Int)) = true) ∨ (b1 = true ∧ b2 = true ∧ ((st.length : Int) != (hs.length : Int)) = false ∧ fine = false) ∨ (b1 = true ∧ b2 = true ∧ ((st.length : Int) != (hs.length : Int)) = false ∧ fine = true) := by
        cases b1 <;> cases b2 <;> cases fine <;> cases ((st.length : Int) != (hs.length : Int)) <;> simp
      rcases hcase with q1 | ⟨q1, q2⟩ | ⟨q1, q2, q3⟩ | ⟨q1, q2, q3, q4⟩ | ⟨q1, q2, q3, q4⟩
      case inr.inr.inr.inr =>
        have hlen : decide (st.length = hs.length) = true := by
          have := q3
          simp at this ⊢
          omega
        have hok : ok = true := by rw [HOK.out, q1, q2, hlen, q4]; rfl
        subst q1 q2 q4
        rw [hok]
        clear HOK hok hlen
        rw [knV_def] at hk
        have none1 : ∀ (o p : Option (List Sp)), o = none ∨ p = none → knO o p = .tuple [.agg [.nilslice, .nilslice], .bool false] ∧ askV true o p = .tuple [.agg [.nilslice, .nilslice], .int .i64 7] := by
          intro o p ho
          rcases ho with rfl | rfl
          · exact ⟨rfl, rfl⟩
          · cases o <;> exact ⟨rfl, rfl⟩
        by_cases hAB : boundsS A = none ∨ boundsS B = none
        · obtain ⟨e1, e2⟩ := none1 _ _ hAB
          rw [e1] at hk
          rw [e2]
          have HK := Lib.hid hk
          clear hk e1 e2 hAB none1
          repeat' (first | refine Y1 ?_ | refine U7 ?_ | refine U8 ?_ | refine U9 ?_ | refine Y2 ?_ | ((first | refine Y3 ?_ | refine Y8 ?_); simp only [tN, bN, eN, true_and]) | (apply U4; exact Z1; exact rfl; simp only [pM, pN, rR, rP]) | (refine J3 rfl rfl ?_ ?_; exact Z2) | (refine J4 rfl rfl ?_ ?_; exact Z2; simp only [pM, pN, rR, rP]) | (apply U3; exact rfl; exact rfl; exact Z1; refine ⟨fun hh => ?_, fun hh => ?_⟩ <;> try simp only [Bool.not_true, Bool.not_false, pM, pN] at hh ⊢) | (apply U6; exact Z1; exact Z1; (focus (simp only [List.nil_append, List.append_nil]; first | exact k99 _ | exact k101 _ | exact H102.out _ _ | exact HK.out _ _ rfl)); simp only [pM, pN, rR, rP]) | (apply U5; exact rfl; exact Z3; simp only [pM, pN, rR, rP]) | (simp only [tP, bP, eP, true_and]) | (refine Y7 ?_; simp only [tR, bR, eR, true_and]) | (refine Y9 ?_; simp only [tX, bS, bO, Nat.reduceBEq, tN, bN]) | (refine Y4 ?_ ?_; exact Z2) | (refine Y5 ?_ ?_; exact Z2) | (apply Y6; exact Z1; refine ⟨fun hh => ?_, fun hh => ?_⟩))
          all_goals simp only [resV_def (X := dX cGP) Tryz.func107, Tryz.results107, resultsV, resultV, go_sem, *, Nat.reduceLT, Int.reduceEq, Int.reduceBEq, Int.reduceLE, Int.reduceLT, Nat.reduceAdd, Nat.reduceBEq, Nat.reduceEqDiff, reduceIte, Nat.reduceLeDiff, Nat.reduceMul, Nat.reduceSub, reduceCtorEq, frzRes, dFrz, frzCells, isRet_ret, tupleOf]
        · obtain ⟨a, hA⟩ : ∃ a, boundsS A = some a := by cases h : boundsS A with | none => exact absurd (.inl h) hAB | some a => exact ⟨a, rfl⟩
          obtain ⟨b, hB⟩ : ∃ b, boundsS B = some b := by cases h : boundsS B with | none => exact absurd (.inr h) hAB | some a => exact ⟨a, rfl⟩
          have e1 : knO (some a) (some b) = .tuple [.agg [slN (a.map spC.enc), slN (b.map spC.enc)], .bool true] := rfl
          have e2 : askV true (some a) (some b) = .tuple [.agg [slN (a.map spC.enc), slN (b.map spC.enc)], .int .i64 0] := rfl
          rw [hA, hB, e1] at hk
          rw [hA, hB, e2]
          have HK := Lib.hid hk
          have f1 := (slN_is (a.map spC.enc)).frz1
          have f2 := (slN_is (b.map spC.enc)).frz1
          have u1 := (slN_is (a.map spC.enc)).out
          have u2 := (slN_is (b.map spC.enc)).out
          have u3 := (slN_is (a.map spC.enc)).tup
          have u4 := (slN_is (b.map spC.enc)).tup
          generalize slN (a.map spC.enc) = la at *
          generalize slN (b.map spC.enc) = lb at *
          clear hk e1 e2 hAB none1 hA hB
          repeat' (first | refine Y1 ?_ | refine U7 ?_ | refine U8 ?_ | refine U9 ?_ | refine Y2 ?_ | ((first | refine Y3 ?_ | refine Y8 ?_); simp only [tN, bN, eN, true_and]) | (apply U4; exact Z1; exact rfl; simp only [pM, pN, rR, rP]) | (refine J3 rfl rfl ?_ ?_; exact Z2) | (refine J4 rfl rfl ?_ ?_; exact Z2; simp only [pM, pN, rR, rP]) | (apply U3; exact rfl; exact rfl; exact Z1; refine ⟨fun hh => ?_, fun hh => ?_⟩ <;> try simp only [Bool.not_true, Bool.not_false, pM, pN] at hh ⊢) | (apply U6; exact Z1; exact Z1; (focus (simp only [List.nil_append, List.append_nil]; first | exact k99 _ | exact k101 _ | exact H102.out _ _ | exact HK.out _ _ rfl)); simp only [pM, pN, rR, rP]) | (apply U5; exact rfl; exact Z3; simp only [pM, pN, rR, rP]) | (simp only [tP, bP, eP, true_and]) | (refine Y7 ?_; simp only [tR, bR, eR, true_and]) | (refine Y9 ?_; simp only [tX, bS, bO, Nat.reduceBEq, tN, bN]) | (refine Y4 ?_ ?_; exact Z2) | (refine Y5 ?_ ?_; exact Z2) | (apply Y6; exact Z1; refine ⟨fun hh => ?_, fun hh => ?_⟩))
          all_goals simp only [resV_def (X := dX cGP) Tryz.func107, Tryz.results107, resultsV, resultV, go_sem, *, Nat.reduceLT, Int.reduceEq, Int.reduceBEq, Int.reduceLE, Int.reduceLT, Nat.reduceAdd, Nat.reduceBEq, Nat.reduceEqDiff, reduceIte, Nat.reduceLeDiff, Nat.reduceMul, Nat.reduceSub, reduceCtorEq, frzRes, dFrz, frzCells, isRet_ret, tupleOf]
      all_goals (
        have hok : ok = false := by
          rw [HOK.out]
          first
            | (rw [q1]; rfl)
            | (rw [q1, q2]; rfl)
            | (have hlen : decide (st.length = hs.length) = false := by
                have := q3
                simp at this ⊢
                omega
               rw [q1, q2, hlen]; rfl)
            | (rw [q4]; simp)
        rw [hok]
        simp only [askV, Bool.false_eq_true, if_false]
        clear HOK hok hk
        subst q1
        repeat' (first | refine Y1 ?_ | refine U7 ?_ | refine U8 ?_ | refine U9 ?_ | refine Y2 ?_ | ((first | refine Y3 ?_ | refine Y8 ?_); simp only [tN, bN, eN, true_and]) | (apply U4; exact Z1; exact rfl; simp only [pM, pN, rR, rP]) | (refine J3 rfl rfl ?_ ?_; exact Z2) | (refine J4 rfl rfl ?_ ?_; exact Z2; simp only [pM, pN, rR, rP]) | (apply U3; exact rfl; exact rfl; exact Z1; refine ⟨fun hh => ?_, fun hh => ?_⟩ <;> try simp only [Bool.not_true, Bool.not_false, pM, pN] at hh ⊢) | (apply U6; exact Z1; exact Z1; (focus (simp only [List.nil_append, List.append_nil]; first | exact k99 _ | exact k101 _)); simp only [pM, pN, rR, rP]) | (apply U5; exact rfl; exact Z3; simp only [pM, pN, rR, rP]) | (simp only [tP, bP, eP, true_and]) | (refine Y7 ?_; simp only [tR, bR, eR, true_and]) | (refine Y9 ?_; simp only [tX, bS, bO, Nat.reduceBEq, tN, bN]) | (refine Y4 ?_ ?_; exact Z2) | (refine Y5 ?_ ?_; exact Z2) | (apply Y6; exact Z1; refine ⟨fun hh => ?_, fun hh => ?_⟩))
        all_goals simp only [resV_def (X := dX cGP) Tryz.func107, Tryz.results107, resultsV, resultV, go_sem, *, Nat.reduceLT, Int.reduceEq, Int.reduceBEq, Int.reduceLE, Int.reduceLT, Nat.reduceAdd, Nat.reduceBEq, Nat.reduceEqDiff, reduceIte, Nat.reduceLeDiff, Nat.reduceMul, Nat.reduceSub, reduceCtorEq, frzRes, dFrz, frzCells, isRet_ret, tupleOf])
    · cases h
  · cases h
end Go.AM
set_option maxRecDepth 100000
namespace Go.AM
open Go Go.Proofs
variable [Keep]
attribute [local irreducible] W WO WO1 WD WQ WT thenQ blockQ endR isRet retK Cl ClR
attribute [local irreducible] matchS goodB goodR boundsS machB measB sureW
theorem calm_ef {X : Ctx} {f : FuncId} {ops : Array Oper} {ts : List (Nat × Trace)} {i k : Nat} {r : List (Nat × Nat)} {x : Oper} {d : Option Tmp} {op : Op} {T : TypeId} {ps : String} {af : Array Edge}
    {f1 f2 : FuncId} {r1 r2 : Bool} {e1 e2 : Mp AV} {lm1 lm2 : Mp (Nat × List AV)} {hp1 hp2 : Heap} {df1 df2 : List (AV × List AV)} {up1 up2 : Option (AV × Bool)} {v1 v2 : AV} {a1 a2 : Fr}
    (h1 : ops[i]? = some x) (h2 : ops[k]? = some ⟨d, op, T, ps, af, none⟩) (h3 : traceOf ts i = some ⟨Fr.mk f1 r1 e1 lm1 hp1 df1 up1, v1, a1⟩) (h4 : traceOf ts k = some ⟨Fr.mk f2 r2 e2 lm2 hp2 df2 up2, v2, a2⟩)
    (h5 : isEffD X f x = true) (h7 : rdV X (Fr.mk f2 r2 e2 lm1 hp1 df2 up2) d op = some v2) (h8 : r.all (calmPair X f ops ts) = true) : ((i, k) :: r).all (calmPair X f ops ts) = true := by
  simp only [List.all_cons, h8, Bool.and_true, calmPair, h1, h2, h3, h4, h5, if_true, rereads, wantedA, h7]
  exact AV.same_refl _
noncomputable def cGQ : FuncId → Option (List AV → Heap → Option (AV × Heap))
  | 93 => some (pureFn sp93)
  | 100 => some (pureFn sp100)
  | 107 => some (pureFn sp107)
  | 138 => some (pureFn sp138)
  | _ => none
theorem cGQ_sound : Sound (dX cGQ) := dX_sound (fun f g h => by
  unfold cGQ at h
  split at h
  · cases h; exact F93
  · cases h; exact F100
  · cases h; exact F107
  · cases h; exact F138
  · cases h)
def sureF (ok : Bool) (A B : Option (List Sp)) (G : Pt → Bool) (blank : Int) : AV :=
  if ok then (match A, B with
    | some a, some b => .tuple [.int .i64 (sureW G (a.getD blank.toNat ⟨0, 0⟩) (b.getD blank.toNat ⟨0, 0⟩)), .int .i64 0]
    | _, _ => .tuple [.int .i64 0, .int .i64 7]) else .tuple [.int .i64 0, .int .i64 2]
def sp43 : List AV → Option AV
  | [.agg [ca, .int .i64 off], .agg [sa, .int .i64 cxl, .int .i64 cxh, .int .i64 cyl, .int .i64 cyh, .int .i64 wxl, .int .i64 wxh, .int .i64 wyl, .int .i64 wyh, ra], .int .i64 blank] => match slV ptC ca, slV ptC sa, slV rdgC ra with
    | some hs, some st, some rs => some (sureF (askOk hs st off (machB st ⟨cxl, cxh⟩ ⟨cyl, cyh⟩ ⟨wxl, wxh⟩ ⟨wyl, wyh⟩ rs) (inB blank 1 12)) (boundsS (ax0 ⟨cxl, cxh⟩ ⟨wxl, wxh⟩ rs [])) (boundsS (ax1 ⟨cyl, cyh⟩ ⟨wyl, wyh⟩ rs [])) (goodB off hs st) blank)
    | _, _, _ => none
  | _ => none
theorem p43 : ∀ args v, sp43 args = some v → v.pur = true := by
  intro args v h
  unfold sp43 at h
  split at h
  · split at h
    · have h := Option.some.inj h
      subst h
      unfold sureF
      split
      · split <;> rfl
      · rfl
    · cases h
  · cases h
theorem sp_ok {c w : Sp} {L : List Lim} {t : List Sp} (b : Bnd c w L t) {k : Nat} (hk : k ≤ 12) : SpOk (t.getD k ⟨0, 0⟩) := by
  have h1 := b.small k hk
  have h2 := b.ne k hk
  exact ⟨by omega, by omega, by omega, by omega⟩
theorem spans_ok {st : List Pt} {cx cy wx wy : Sp} {rs : List Rdg} (h : machB st cx cy wx wy rs = true) {a b : List Sp} (ha : boundsS (ax0 cx wx rs []) = some a) (hb : boundsS (ax1 cy wy rs []) = some b) {k : Nat} (hk : k ≤ 12) : SpOk (a.getD k ⟨0, 0⟩) ∧ SpOk (b.getD k ⟨0, 0⟩) := by
  have e1 : ax0 cx wx rs [] = ⟨cx, wx, lims155 rs⟩ := by simp [ax0]
  have e2 : ax1 cy wy rs [] = ⟨cy, wy, lims156 rs⟩ := by simp [ax1]
  rw [e1] at ha
  rw [e2] at hb
  exact ⟨sp_ok (bnd_of (good_x h) ha) hk, sp_ok (bnd_of (good_y h) hb) hk⟩
theorem ask_ok {hs st : List Pt} {off : Int} {m fine : Bool} (h : askOk hs st off m fine = true) : measB hs off = true ∧ m = true ∧ hs.length = st.length ∧ fine = true ∧ 1 ≤ st.length ∧ st.length ≤ 8 := by
  unfold askOk at h
  simp only [Bool.and_eq_true, decide_eq_true_eq] at h
  obtain ⟨⟨⟨h1, h2⟩, h3⟩, h4⟩ := h
  have := meas_len h1
  exact ⟨h1, h2, by omega, h4, by omega, by omega⟩
set_option maxHeartbeats 8000000 in
theorem F43 : IntrFn Tryz.prog 43 (pureFn sp43) := by
  refine pure_fn (X := dX cGQ) cGQ_sound p43 ?_
  intro args v h
  unfold sp43 at h
  split at h
  · rename_i ca off sa cxl cxh cyl cyh wxl wxh wyl wyh ra blank
    split at h
    · rename_i hs st rs hc hl hr
      have h := Option.some.inj h
      subst h
      have o1 := sl_out hc
      have o2 := sl_out hl
      have o3 := sl_out hr
      obtain ⟨one1, t1⟩ := sl_one hc
      obtain ⟨one2, t2⟩ := sl_one hl
      obtain ⟨one3, t3⟩ := sl_one hr
      have k107 : ∀ h, Cl (dX cGQ) 107 [.agg [ca, .int .i64 off], .agg [sa, .int .i64 cxl, .int .i64 cxh, .int .i64 cyl, .int .i64 cyh, .int .i64 wxl, .int .i64 wxh, .int .i64 wyl, .int .i64 wyh, ra], .bool (inB blank 1 12)] h (.ret (askV (askOk hs st off (machB st ⟨cxl, cxh⟩ ⟨cyl, cyh⟩ ⟨wxl, wxh⟩ ⟨wyl, wyh⟩ rs) (inB blank 1 12)) (boundsS (ax0 ⟨cxl, cxh⟩ ⟨wxl, wxh⟩ rs [])) (boundsS (ax1 ⟨cyl, cyh⟩ ⟨wyl, wyh⟩ rs []))) h none) := fun h => Cl.intr (g := pureFn sp107) rfl (by simp [pureFn, AV.pur, AV.purL, sl_pur hc, sl_pur hl, sl_pur hr, sp107, hc, hl, hr])
      have h102 := fun n m => C102 cGQ rfl sa ra ⟨cxl, cxh⟩ ⟨cyl, cyh⟩ ⟨wxl, wxh⟩ ⟨wyl, wyh⟩ (slV_is hl).1.frz1 (slV_is hr).1.frz1 n m
      have H102 := Lib.hid h102
      have b20 : ((2 : Int) != 0) = true := rfl
      have b70 : ((7 : Int) != 0) = true := rfl
      have b00 : ((0 : Int) != 0) = false := rfl
      cases hok : askOk hs st off (machB st ⟨cxl, cxh⟩ ⟨cyl, cyh⟩ ⟨wxl, wxh⟩ ⟨wyl, wyh⟩ rs) (inB blank 1 12) with
      | false =>
        rw [hok] at k107
        simp only [askV, Bool.false_eq_true, if_false] at k107
        simp only [sureF, Bool.false_eq_true, if_false]
        clear hc hl hr h102 H102 hok
        refine ClR.walk (c := _) rfl Tryz.func43 rfl (by kernel_rfl) rfl isRet_fail ?_
        simp only [entryEnv, Nat.reduceAdd, emptyHp]
        repeat' (first | (apply W.draw (id := 1) (lc := [8, 0, 1, 2, 3, 4, 5, 6, 7, 9, 10]) (hot := [(0, 3), (1, 3)]); kernel_rfl; kernel_rfl; kernel_rfl; exact Z4) | (apply WD.alloc (o := ⟨some 8, .alloc 147, 0, _, _, none⟩); exact rfl; exact rfl; exact Z1; simp only [pM, pN]) | (refine WD.nil ⟨?_, ?_⟩; rotate_left; simp only [tN, bN, eN, true_and]) | (refine WD.cons rfl rfl ?_) | (refine calm_rd rfl rfl rfl rfl rfl ?_ ?_; (focus (first | exact Z2 | exact Z1))) | (with_reducible refine calm_end) | refine Y1 ?_ | refine U7 ?_ | refine U8 ?_ | refine U9 ?_ | refine Y2 ?_ | ((first | refine Y3 ?_ | refine Y8 ?_); simp only [tN, bN, eN, true_and]) | (apply U4; exact Z1; exact rfl; simp only [pM, pN, rR, rP]) | (refine J3 rfl rfl ?_ ?_; exact Z2) | (refine J4 rfl rfl ?_ ?_; exact Z2; simp only [pM, pN, rR, rP]) | (apply U3; exact rfl; exact rfl; exact Z1; refine ⟨fun hh => ?_, fun hh => ?_⟩ <;> try simp only [Bool.not_true, Bool.not_false, pM, pN] at hh ⊢) | (apply U6; exact Z1; exact Z1; (focus (simp only [List.nil_append, List.append_nil]; first | exact K93 rfl _ _ _ _ | exact k107 _)); simp only [pM, pN, rR, rP]) | (apply U5; exact rfl; exact Z3; simp only [pM, pN, rR, rP]) | (simp only [tP, bP, eP, true_and]) | (refine Y7 ?_; simp only [tR, bR, eR, true_and]) | (refine Y9 ?_; simp only [tX, bS, bO, Nat.reduceBEq, tN, bN]) | (refine Y4 ?_ ?_; exact Z2) | (refine Y5 ?_ ?_; exact Z2) | (apply Y6; exact Z1; refine ⟨fun hh => ?_, fun hh => ?_⟩))
        all_goals simp only [resV_def (X := dX cGQ) Tryz.func43, Tryz.results43, resultsV, resultV, go_sem, *, Nat.reduceLT, Int.reduceEq, Int.reduceBEq, Int.reduceLE, Int.reduceLT, Nat.reduceAdd, Nat.reduceBEq, Nat.reduceEqDiff, reduceIte, Nat.reduceLeDiff, Nat.reduceMul, Nat.reduceSub, reduceCtorEq, frzRes, dFrz, frzCells, isRet_ret, tupleOf]
      | true =>
        obtain ⟨m1, m2, hlen, hin, hl1, hl8⟩ := ask_ok hok
        rw [hok] at k107
        simp only [askV, if_true] at k107
        simp only [sureF, if_true]
        rw [hin] at k107
        have k93 : ∀ h, Cl (dX cGQ) 93 [.int .i64 blank, .int .i64 1, .int .i64 12] h (.ret (.bool true) h none) := fun h => by
          have := K93 (X := dX cGQ) rfl blank 1 12 h
          rw [hin] at this
          exact this
        cases hA : boundsS (ax0 ⟨cxl, cxh⟩ ⟨wxl, wxh⟩ rs []) with
        | none =>
          rw [hA] at k107
          clear hc hl hr h102 H102 hok hA hin
          refine ClR.walk (c := _) rfl Tryz.func43 rfl (by kernel_rfl) rfl isRet_fail ?_
          simp only [entryEnv, Nat.reduceAdd, emptyHp]
          repeat' (first | (apply W.draw (id := 1) (lc := [8, 0, 1, 2, 3, 4, 5, 6, 7, 9, 10]) (hot := [(0, 3), (1, 3)]); kernel_rfl; kernel_rfl; kernel_rfl; exact Z4) | (apply WD.alloc (o := ⟨some 8, .alloc 147, 0, _, _, none⟩); exact rfl; exact rfl; exact Z1; simp only [pM, pN]) | (refine WD.nil ⟨?_, ?_⟩; rotate_left; simp only [tN, bN, eN, true_and]) | (refine WD.cons rfl rfl ?_) | (refine calm_rd rfl rfl rfl rfl rfl ?_ ?_; (focus (first | exact Z2 | exact Z1))) | (with_reducible refine calm_end) | refine Y1 ?_ | refine U7 ?_ | refine U8 ?_ | refine U9 ?_ | refine Y2 ?_ | ((first | refine Y3 ?_ | refine Y8 ?_); simp only [tN, bN, eN, true_and]) | (apply U4; exact Z1; exact rfl; simp only [pM, pN, rR, rP]) | (refine J3 rfl rfl ?_ ?_; exact Z2) | (refine J4 rfl rfl ?_ ?_; exact Z2; simp only [pM, pN, rR, rP]) | (apply U3; exact rfl; exact rfl; exact Z1; refine ⟨fun hh => ?_, fun hh => ?_⟩ <;> try simp only [Bool.not_true, Bool.not_false, pM, pN] at hh ⊢) | (apply U6; exact Z1; exact Z1; (focus (simp only [List.nil_append, List.append_nil]; first | exact k93 _ | exact k107 _)); simp only [pM, pN, rR, rP]) | (apply U5; exact rfl; exact Z3; simp only [pM, pN, rR, rP]) | (simp only [tP, bP, eP, true_and]) | (refine Y7 ?_; simp only [tR, bR, eR, true_and]) | (refine Y9 ?_; simp only [tX, bS, bO, Nat.reduceBEq, tN, bN]) | (refine Y4 ?_ ?_; exact Z2) | (refine Y5 ?_ ?_; exact Z2) | (apply Y6; exact Z1; refine ⟨fun hh => ?_, fun hh => ?_⟩))
          all_goals simp only [resV_def (X := dX cGQ) Tryz.func43, Tryz.results43, resultsV, resultV, go_sem, *, Nat.reduceLT, Int.reduceEq, Int.reduceBEq, Int.reduceLE, Int.reduceLT, Nat.reduceAdd, Nat.reduceBEq, Nat.reduceEqDiff, reduceIte, Nat.reduceLeDiff, Nat.reduceMul, Nat.reduceSub, reduceCtorEq, frzRes, dFrz, frzCells, isRet_ret, tupleOf]
        | some a =>
          cases hB : boundsS (ax1 ⟨cyl, cyh⟩ ⟨wyl, wyh⟩ rs []) with
          | none =>
            rw [hA, hB] at k107
            clear hc hl hr h102 H102 hok hA hB hin
            refine ClR.walk (c := _) rfl Tryz.func43 rfl (by kernel_rfl) rfl isRet_fail ?_
            simp only [entryEnv, Nat.reduceAdd, emptyHp]
            repeat' (first | (apply W.draw (id := 1) (lc := [8, 0, 1, 2, 3, 4, 5, 6, 7, 9, 10]) (hot := [(0, 3), (1, 3)]); kernel_rfl; kernel_rfl; kernel_rfl; exact Z4) | (apply WD.alloc (o := ⟨some 8, .alloc 147, 0, _, _, none⟩); exact rfl; exact rfl; exact Z1; simp only [pM, pN]) | (refine WD.nil ⟨?_, ?_⟩; rotate_left; simp only [tN, bN, eN, true_and]) | (refine WD.cons rfl rfl ?_) | (refine calm_rd rfl rfl rfl rfl rfl ?_ ?_; (focus (first | exact Z2 | exact Z1))) | (with_reducible refine calm_end) | refine Y1 ?_ | refine U7 ?_ | refine U8 ?_ | refine U9 ?_ | refine Y2 ?_ | ((first | refine Y3 ?_ | refine Y8 ?_); simp only [tN, bN, eN, true_and]) | (apply U4; exact Z1; exact rfl; simp only [pM, pN, rR, rP]) | (refine J3 rfl rfl ?_ ?_; exact Z2) | (refine J4 rfl rfl ?_ ?_; exact Z2; simp only [pM, pN, rR, rP]) | (apply U3; exact rfl; exact rfl; exact Z1; refine ⟨fun hh => ?_, fun hh => ?_⟩ <;> try simp only [Bool.not_true, Bool.not_false, pM, pN] at hh ⊢) | (apply U6; exact Z1; exact Z1; (focus (simp only [List.nil_append, List.append_nil]; first | exact k93 _ | exact k107 _)); simp only [pM, pN, rR, rP]) | (apply U5; exact rfl; exact Z3; simp only [pM, pN, rR, rP]) | (simp only [tP, bP, eP, true_and]) | (refine Y7 ?_; simp only [tR, bR, eR, true_and]) | (refine Y9 ?_; simp only [tX, bS, bO, Nat.reduceBEq, tN, bN]) | (refine Y4 ?_ ?_; exact Z2) | (refine Y5 ?_ ?_; exact Z2) | (apply Y6; exact Z1; refine ⟨fun hh => ?_, fun hh => ?_⟩))
            all_goals simp only [resV_def (X := dX cGQ) Tryz.func43, Tryz.results43, resultsV, resultV, go_sem, *, Nat.reduceLT, Int.reduceEq, Int.reduceBEq, Int.reduceLE, Int.reduceLT, Nat.reduceAdd, Nat.reduceBEq, Nat.reduceEqDiff, reduceIte, Nat.reduceLeDiff, Nat.reduceMul, Nat.reduceSub, reduceCtorEq, frzRes, dFrz, frzCells, isRet_ret, tupleOf]
          | some b =>
            have hb := hin
            simp only [inB, Bool.and_eq_true, decide_eq_true_eq] at hb
            obtain ⟨k, rfl⟩ : ∃ k : Nat, blank = k := ⟨blank.toNat, by omega⟩
            have hla := boundsS_len hA
            have hlb := boundsS_len hB
            obtain ⟨p, hp⟩ := get_some (show k < a.length by omega)
            obtain ⟨q, hq⟩ := get_some (show k < b.length by omega)
            have ea : slN (a.map spC.enc) = .vslice (a.map spC.enc) := by cases a with | nil => simp at hla | cons x l => rfl
            have eb : slN (b.map spC.enc) = .vslice (b.map spC.enc) := by cases b with | nil => simp at hlb | cons x l => rfl
            have hsp := spans_ok m2 hA hB (k := k) (by omega)
            have g1 : a.getD k ⟨0, 0⟩ = p := by simp [List.getD, hp]
            have g2 : b.getD k ⟨0, 0⟩ = q := by simp [List.getD, hq]
            rw [g1, g2] at hsp
            have htn : ((k : Nat) : Int).toNat = k := by omega
            simp only [htn, g1, g2]
            rw [hA, hB] at k107
            simp only [ea, eb] at k107
            have hcl0 := C108 cGQ rfl rfl rfl rfl sa ra ca ⟨cxl, cxh⟩ ⟨cyl, cyh⟩ ⟨wxl, wxh⟩ ⟨wyl, wyh⟩ st hs off p q 0 ⟨0 + 1, Mp.nil.set 0 (.mp [])⟩ [] hl one3 t3 o3 hc hlen hl1 hl8 hsp.1 hsp.2 rfl (fun e he => by simp at he)
            unfold ClR at hcl0
            obtain ⟨r, hcl, hcr⟩ := hcl0
            unfold sureR at hcr
            obtain ⟨h', tab', rfl, _, _, _, _⟩ := hcr
            have hi1 := sp_idx hp
            have hi2 := sp_idx hq
            have i0 := ix147_0
            have i1 := ix147_1
            generalize sureW (goodB off hs st) p q = w at *
            generalize a.map spC.enc = la at *
            generalize b.map spC.enc = lb at *
            clear hc hl hr h102 hok hA hB hla hlb hp hq ea eb hsp g1 g2 htn hin hb m1 m2 hlen hl1 hl8
            refine ClR.walk (c := _) rfl Tryz.func43 rfl (by kernel_rfl) rfl isRet_fail ?_
            simp only [entryEnv, Nat.reduceAdd, emptyHp]
            repeat' (first | (apply W.draw (id := 1) (lc := [8, 0, 1, 2, 3, 4, 5, 6, 7, 9, 10]) (hot := [(0, 3), (1, 3)]); kernel_rfl; kernel_rfl; kernel_rfl; exact Z4) | (apply W.draw (id := 4) (lc := [0, 1, 2, 3, 4, 5, 6, 7, 8, 9, 10, 11, 12, 13, 14, 15]) (hot := [(1, 2), (1, 3), (1, 4), (1, 6), (1, 7), (1, 8), (1, 9), (1, 11), (1, 12)]); kernel_rfl; kernel_rfl; kernel_rfl; exact Z4) | (apply WD.alloc (o := ⟨some 8, .alloc 147, 0, _, _, none⟩); exact rfl; exact rfl; exact Z1; simp only [pM, pN]) | (refine WD.nil ⟨?_, ?_⟩; rotate_left; simp only [tN, bN, eN, true_and]) | (refine WD.cons rfl rfl ?_) | (refine calm_rd rfl rfl rfl rfl rfl ?_ ?_; (focus (first | exact Z2 | exact Z1))) | (refine calm_ef rfl rfl rfl rfl rfl ?_ ?_; (focus (first | exact Z2 | exact Z1))) | (with_reducible refine calm_end) | refine Y1 ?_ | refine U7 ?_ | refine U8 ?_ | refine U9 ?_ | refine Y2 ?_ | ((first | refine Y3 ?_ | refine Y8 ?_); simp only [tN, bN, eN, true_and]) | (apply U4; exact Z1; exact rfl; simp only [pM, pN, rR, rP]) | (refine J3 rfl rfl ?_ ?_; exact Z2) | (refine J4 rfl rfl ?_ ?_; exact Z2; simp only [pM, pN, rR, rP]) | (apply U3; exact rfl; exact rfl; exact Z1; refine ⟨fun hh => ?_, fun hh => ?_⟩ <;> try simp only [Bool.not_true, Bool.not_false, pM, pN] at hh ⊢) | (apply U6; exact Z1; exact Z1; (focus (simp only [List.nil_append, List.append_nil]; first | exact k93 _ | exact k107 _ | exact H102.out _ _ | exact hcl)); simp only [pM, pN, rR, rP]) | (apply U5; exact rfl; exact Z3; simp only [pM, pN, rR, rP]) | (simp only [tP, bP, eP, true_and]) | (refine Y7 ?_; simp only [tR, bR, eR, true_and]) | (refine Y9 ?_; simp only [tX, bS, bO, Nat.reduceBEq, tN, bN]) | (refine Y4 ?_ ?_; exact Z2) | (refine Y5 ?_ ?_; exact Z2) | (apply Y6; exact Z1; refine ⟨fun hh => ?_, fun hh => ?_⟩))
            all_goals simp only [resV_def (X := dX cGQ) Tryz.func43, Tryz.results43, resultsV, resultV, go_sem, *, Nat.reduceLT, Int.reduceEq, Int.reduceBEq, Int.reduceLE, Int.reduceLT, Nat.reduceAdd, Nat.reduceBEq, Nat.reduceEqDiff, reduceIte, Nat.reduceLeDiff, Nat.reduceMul, Nat.reduceSub, reduceCtorEq, frzRes, dFrz, frzCells, isRet_ret, tupleOf]
    · cases h
  · cases h
end Go.AM
set_option maxRecDepth 100000
namespace Go.AM
open Go Go.Proofs
variable [Keep]
attribute [local irreducible] W WO WO1 WD WQ WT thenQ blockQ endR isRet retK Cl ClR
attribute [local irreducible] matchS boundsS machB measB upAny rowAny sureW
structure CntOk (g n : Int) (good bad : Bool) : Prop where
  g0 : 0 ≤ g
  gn : g ≤ n
  all : g = n ↔ bad = false
  none : g = 0 ↔ good = false
theorem sure_def (G : Pt → Bool) (x y : Sp) : sureW G x y = if upAny (fun p => !G p) x y (ny x) then (if upAny G x y (ny x) then 2 else 1) else 3 := by unfold sureW; rfl
end Go.AM
set_option maxRecDepth 100000
namespace Go.AM
open Go Go.Proofs
variable [Keep]
attribute [local irreducible] W WO WO1 WD WQ WT thenQ blockQ endR isRet retK Cl ClR
attribute [local irreducible] matchS boundsS machB measB sureW goodB
def heldI (hs st : List Pt) (off : Int) (m : Bool) (p : Bool) (bl : Bool) : Int := if measB hs off && m && decide (hs.length = st.length) && bl then (if p then 0 else 7) else 2
end Go.AM
