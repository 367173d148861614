/-
  Arguments as values of the evaluator; from the evaluator to the rows.
-/
import Derived.Test.YtlhcjccaimmhgaaGreatDoorEvalC
import Derived.Test.YtlhcjccaimmhgaaGreatDoorSteps
import Derived.ChangeArms
import Derived.Lib.LaidTab
import Derived.Test.YtlhcjccaimmhgaaGreatDoorFnA
import Derived.Test.YtlhcjccaimmhgaaGreatDoorLib
import Derived.Carry
import Derived.Test.YtlhcjccaimmhgaaGreatDoorTie
import Derived.ProofKit
import Derived.ChangeCalls
import Derived.OpenShut
import Derived.LaidMore
import Derived.Lay
import Derived.SevenTiedAt
import Derived.Stop.Joined
set_option linter.unusedSimpArgs false
set_option linter.unusedVariables false
set_option linter.unusedSectionVars false
namespace Go.AM
open Go
variable {P : Program} {H : Type} {enc : TypeId × Value → H}
def tileB (P : Program) (tot : Nat) : Nat → List Field → Bool
  | acc, [] => acc == tot
  | acc, f :: r => f.offset == acc && tileB P tot (acc + P.cellsOf f.type) r
def plainT (P : Program) : Nat → TypeId → Bool
  | 0, _ => false
  | n + 1, t => match P.underlying t with
    | some .bool | some (.int _) | some .string => true
    | some (.slice e) => plainT P n e && Nat.ble 1 (P.cellsOf e) && (isAggT P e || P.cellsOf e == 1)
    | some (.struct fs) => (fs.toList.all fun f => plainT P n f.type) && tileB P (P.cellsOf t) 0 fs.toList
    | _ => false
def ShF (S : TypeId → List AV → Prop) : List Field → List AV → Prop
  | [], xa => xa = []
  | f :: r, xa => ∃ x y, xa = x ++ y ∧ S f.type x ∧ ShF S r y
def Sh (P : Program) : Nat → TypeId → List AV → Prop
  | 0, _, _ => False
  | n + 1, t, xa => match P.underlying t with
    | some .bool => ∃ b, xa = [.bool b]
    | some (.int k) => ∃ i, xa = [.int k i] ∧ (Lit.int k i).wf = true
    | some .string => ∃ s, xa = [.str s] ∧ s.length ≤ maxLen
    | some (.slice e) => ∃ a es, xa = [a] ∧ isSl a es ∧ es.length ≤ maxLen ∧ ∀ x ∈ es, ∃ xs, x = asElem (isAggT P e) xs ∧ Sh P n e xs
    | some (.struct fs) => ShF (Sh P n) fs.toList xa
    | _ => False
inductive VL (C : Cfg) : List AV → List Value → Prop
  | nil : VL C [] []
  | cons {a : AV} {v : Value} {xa : List AV} {vs : List Value} : VR C a v → a.one = true → VL C xa vs → VL C (a :: xa) (v :: vs)
theorem VL.append {C : Cfg} {xa bs : List AV} {vs us : List Value} (h : VL C xa vs) (k : VL C bs us) : VL C (xa ++ bs) (vs ++ us) := by
  induction h with
  | nil => exact k
  | cons h1 h2 _ ih => exact .cons h1 h2 ih
theorem VL.len {C : Cfg} {xa : List AV} {vs : List Value} (h : VL C xa vs) : xa.length = vs.length := by
  induction h with
  | nil => rfl
  | cons _ _ _ ih => simp [ih]
theorem VL.get {C : Cfg} {xa : List AV} {vs : List Value} (h : VL C xa vs) : ∀ (i : Nat) (a : AV), xa[i]? = some a → a.one = true ∧ ∃ v, vs[i]? = some v ∧ VR C a v := by
  induction h with
  | nil => intro i a e; simp at e
  | cons h1 h2 _ ih =>
    intro i a e
    cases i with
    | zero => simp at e; subst e; exact ⟨h2, _, rfl, h1⟩
    | succ i => simpa using ih i a (by simpa using e)
theorem VL.one {C : Cfg} {xa : List AV} {vs : List Value} (h : VL C xa vs) : ∀ a ∈ xa, a.one = true := by
  intro a ha
  obtain ⟨i, hi⟩ := List.mem_iff_getElem?.1 ha
  exact (h.get i a hi).1
theorem exists_list {α : Type} {p : Nat → α → Prop} : ∀ n, (∀ i, i < n → ∃ y, p i y) → ∃ l : List α, l.length = n ∧ ∀ i, i < n → ∃ y, l[i]? = some y ∧ p i y := by
  intro n
  induction n with
  | zero => intro _; exact ⟨[], rfl, fun i hi => by omega⟩
  | succ n ih =>
    intro h
    obtain ⟨l, hl, hp⟩ := ih (fun i hi => h i (by omega))
    obtain ⟨y, hy⟩ := h n (by omega)
    refine ⟨l ++ [y], by simp [hl], fun i hi => ?_⟩
    by_cases hn : i < n
    · obtain ⟨z, hz, hz2⟩ := hp i hn
      exact ⟨z, by rw [List.getElem?_append_left (by omega)]; exact hz, hz2⟩
    · have : i = n := by omega
      subst this
      exact ⟨y, by rw [List.getElem?_append_right (by omega), hl]; simp, hy⟩
theorem cells_get {w : World} {base n : Nat} {a : Addr} {cs : List Value} (h : w.cells? base a n = some cs) : cs.length = n ∧ ∀ i, i < n → ∃ v, cs[i]? = some v ∧ w.cell? (a.add i) = some v := by
  unfold World.cells? at h
  split at h
  · refine ⟨by simpa using Lib.mapM_length h, fun i hi => ?_⟩
    exact Lib.mapM_at h i i (by simp [hi])
  · cases h
theorem add_add {a : Addr} (hs : a.spot = none) (i j : Nat) : (a.add i).add j = ⟨a.block, a.off + i + j, none⟩ := by
  obtain ⟨b, o, s⟩ := a
  cases hs
  unfold Addr.add
  by_cases hi : i = 0 <;> by_cases hj : j = 0 <;> simp [hi, hj]
theorem tile_VL {C : Cfg} {S : TypeId → List AV → Prop} {tot : Nat} {cs : List Value} (hl : cs.length = tot) : ∀ (fs : List Field) (acc : Nat), tileB P tot acc fs = true →
    (∀ f ∈ fs, ∃ xa, VL C xa ((cs.drop f.offset).take (P.cellsOf f.type)) ∧ S f.type xa) → ∃ xa, VL C xa (cs.drop acc) ∧ ShF S fs xa := by
  intro fs
  induction fs with
  | nil =>
    intro acc h _
    simp only [tileB, beq_iff_eq] at h
    subst h
    refine ⟨[], ?_, rfl⟩
    rw [List.drop_of_length_le (by omega)]
    exact .nil
  | cons f r ih =>
    intro acc h hf
    simp only [tileB, Bool.and_eq_true, beq_iff_eq] at h
    obtain ⟨h1, h2⟩ := h
    obtain ⟨xa, k1, k2⟩ := hf f (by simp)
    obtain ⟨bs, g1, g2⟩ := ih _ h2 (fun f' hf' => hf f' (by simp [hf']))
    refine ⟨xa ++ bs, ?_, xa, bs, rfl, k2, g2⟩
    rw [h1] at k1
    have : cs.drop acc = (cs.drop acc).take (P.cellsOf f.type) ++ cs.drop (acc + P.cellsOf f.type) := by
      rw [← List.drop_drop, List.take_append_drop]
    rw [this]
    exact k1.append g1
theorem asEl_cells {xa : List AV} {ag : Bool} (h : ag = true ∨ xa.length = 1) (ho : ∀ a ∈ xa, a.one = true) : (asElem ag xa).cells = xa := by
  cases ag with
  | true => rfl
  | false =>
    rcases h with h | h
    · cases h
    · match xa, h with
      | [a], _ =>
        have := ho a (by simp)
        cases a <;> first | rfl | simp [AV.one] at this
theorem opens {w : World} (n : Nat) : ∀ (t : TypeId) (cs : List Value) (fuel : Nat) (x : DataW H × List MemPlace), plainT P n t = true →
    DataW.trod enc P w 0 (fun _ => true) true fuel t cs = some x → ∃ xa, VL ⟨fun _ => none, w.cell?⟩ xa cs ∧ Sh P n t xa := by
  induction n with
  | zero => intro t cs fuel x h; simp [plainT] at h
  | succ n ih =>
    intro t cs fuel x h hx
    unfold plainT at h
    unfold Sh
    cases hu : P.underlying t with
    | none => rw [hu] at h; cases h
    | some d =>
      rw [hu] at h
      cases d with
      | bool =>
        obtain ⟨b, rfl, _⟩ := DataW.trod_bool hu hx
        exact ⟨[.bool b], .cons (.bool b) rfl .nil, b, rfl⟩
      | int k =>
        obtain ⟨i, rfl, _, hw⟩ := DataW.trod_int hu hx
        exact ⟨[.int k i], .cons (.int k i) rfl .nil, i, rfl, hw⟩
      | string =>
        obtain ⟨s, rfl, _, hs⟩ := DataW.trod_string hu hx
        refine ⟨[.str s.data.toList], .cons ?_ rfl .nil, s.data.toList, rfl, ?_⟩
        · have : s = ⟨⟨s.data.toList⟩⟩ := by rfl
          rw [this]
          exact .str _
        · rw [Array.length_toList]; exact hs
      | slice e =>
        simp only [Bool.and_eq_true, Bool.or_eq_true, beq_iff_eq] at h
        obtain ⟨⟨h1, h2⟩, h3⟩ := h
        have h2 := Nat.le_of_ble_eq_true h2
        rcases DataW.trod_slice hu hx with ⟨rfl, _⟩ | ⟨a, len, cap, elems, rest, m, rfl, rfl, _, _, hlc, hcm, hel, hget, _, _⟩
        · exact ⟨[.nilslice], .cons .nilslice rfl .nil, _, [], rfl, .inl ⟨.inl rfl, rfl⟩, by simp, fun x hx => by cases hx⟩
        ·
          have key : ∀ i, i < len → ∃ xs, (∃ us, w.cells? 0 (a.add (i * P.cellsOf e)) (P.cellsOf e) = some us ∧ VL ⟨fun _ => none, w.cell?⟩ xs us) ∧ Sh P n e xs := by
            intro i hi
            have hg := hget i hi
            have : i < elems.length := by omega
            rw [List.getElem?_eq_getElem this] at hg
            obtain ⟨us, hus, htr⟩ := Option.bind_eq_some_iff.1 hg
            obtain ⟨xs, k1, k2⟩ := ih e us m _ h1 htr
            exact ⟨xs, ⟨us, hus, k1⟩, k2⟩
          obtain ⟨ls, hll, hls⟩ := exists_list len key
          have hone : ∀ xs ∈ ls, (∀ a ∈ xs, a.one = true) ∧ xs.length = P.cellsOf e ∧ Sh P n e xs := by
            intro xs hxs
            obtain ⟨i, hi⟩ := List.mem_iff_getElem?.1 hxs
            have hil : i < len := by
              rcases Nat.lt_or_ge i ls.length with h' | h'
              · omega
              · rw [List.getElem?_eq_none h'] at hi; cases hi
            obtain ⟨y, hy, ⟨us, hus, hv⟩, hs⟩ := hls i hil
            rw [hi] at hy
            cases hy
            exact ⟨hv.one, by rw [hv.len]; exact (cells_get hus).1, hs⟩
          have hcell : ∀ xs ∈ ls, (asElem (isAggT P e) xs).cells = xs := fun xs hxs => asEl_cells (h3.imp id (fun h => (hone xs hxs).2.1.trans h)) (hone xs hxs).1
          by_cases hlen : len = 0
          · subst hlen
            have : ls = [] := List.eq_nil_of_length_eq_zero hll
            refine ⟨[.vslice []], .cons (.vslice0 a cap) rfl .nil, _, [], rfl, .inr rfl, by simp, fun x hx => by cases hx⟩
          ·
            obtain ⟨y0, _, ⟨us0, hus0, _⟩, _⟩ := hls 0 (by omega)
            obtain ⟨_, hc0⟩ := cells_get hus0
            obtain ⟨v0, _, hv0⟩ := hc0 0 (by omega)
            have hspot : a.spot = none := by
              have : (a.add (0 * P.cellsOf e)).add 0 = a := by simp [Addr.add]
              rw [this] at hv0
              unfold World.cell? at hv0
              split at hv0
              · split at hv0
                · cases hv0
                · rename_i hh; cases hsp : a.spot with
                  | none => rfl
                  | some s => simp [hsp] at hh
              · cases hv0
            have haddr : a = ⟨a.block, a.off, none⟩ := by obtain ⟨b, o, s⟩ := a; cases hspot; rfl
            refine ⟨[.vslice (ls.map (asElem (isAggT P e)))], .cons ?_ rfl .nil, _, ls.map (asElem (isAggT P e)), rfl, .inr rfl, by simp; omega, ?_⟩
            · have hval : ∀ i j, i < (ls.map (asElem (isAggT P e))).length → j < P.cellsOf e → ∃ v, w.cell? ⟨a.block, a.off + i * P.cellsOf e + j, none⟩ = some v ∧ VR ⟨fun _ => none, w.cell?⟩ (((ls.map (asElem (isAggT P e))).getD i .junk).cells.getD j .junk) v := by
                intro i j hi hj
                rw [List.length_map] at hi
                obtain ⟨xs, hxs, ⟨us, hus, hv⟩, hs⟩ := hls i (by omega)
                have hmem := List.mem_of_getElem? hxs
                have e1 : (ls.map (asElem (isAggT P e))).getD i .junk = asElem (isAggT P e) xs := by simp [List.getD, hxs]
                rw [e1, hcell xs hmem]
                have hjl : j < xs.length := by rw [(hone xs hmem).2.1]; exact hj
                obtain ⟨_, v, hv1, hv2⟩ := hv.get j xs[j] (by simp [hjl])
                obtain ⟨_, hcs⟩ := cells_get hus
                obtain ⟨v', g1, g2⟩ := hcs j hj
                rw [hv1] at g1
                cases g1
                rw [add_add hspot] at g2
                refine ⟨v, g2, ?_⟩
                have : xs.getD j .junk = xs[j] := by simp [List.getD, hjl]
                rw [this]
                exact hv2
              have hl2 : (ls.map (asElem (isAggT P e))).length = len := by simp [hll]
              rw [haddr, ← hl2]
              refine VR.vslice (sz := P.cellsOf e) (fun i j => (w.cell? ⟨a.block, a.off + i * P.cellsOf e + j, none⟩).getD undef) (by omega) ?_ ?_ ?_ ?_
              · intro x hx
                obtain ⟨xs, hxs, rfl⟩ := List.mem_map.1 hx
                rw [hcell xs hxs]
                exact (hone xs hxs).2.1
              · intro i j hi hj
                obtain ⟨v, hv, _⟩ := hval i j hi hj
                simp [hv]
              · intro i j hi hj
                obtain ⟨v, hv, hr⟩ := hval i j hi hj
                simp only [hv, Option.getD_some]
                exact hr
              · intro x hx c hc
                obtain ⟨xs, hxs, rfl⟩ := List.mem_map.1 hx
                rw [hcell xs hxs] at hc
                exact (hone xs hxs).1 c hc
            · intro x hx
              obtain ⟨xs, hxs, rfl⟩ := List.mem_map.1 hx
              exact ⟨xs, rfl, (hone xs hxs).2.2⟩
      | struct fs =>
        simp only [Bool.and_eq_true] at h
        obtain ⟨h1, h2⟩ := h
        obtain ⟨xs, m, rfl, _, hcl, hxl, hget⟩ := DataW.trod_struct hu hx
        have := tile_VL (P := P) (C := ⟨fun _ => none, w.cell?⟩) (S := Sh P n) hcl fs.toList 0 h2 (fun f hf => by
          obtain ⟨i, hi⟩ := List.mem_iff_getElem?.1 hf
          have hi' : fs[i]? = some f := by simpa using hi
          have hg := hget i f hi'
          have hil : i < xs.length := by
            rw [hxl]
            exact (Array.getElem?_eq_some_iff.1 hi').1
          rw [List.getElem?_eq_getElem hil] at hg
          exact ih f.type _ m _ (List.all_eq_true.1 h1 f hf) hg)
        simpa using this
      | _ => cases h
end Go.AM
namespace Go.AM
open Go Go.RowKit
section
variable {P : Program} {H : Type} {enc : TypeId × Value → H} {w : World}
theorem VL.vrs {C : Cfg} {xa : List AV} {vs : List Value} (h : VL C xa vs) : vs.toArray.size = xa.length ∧ ∀ i, i < xa.length → VR C (xa.getD i .junk) (vs.toArray.getD i undef) := by
  refine ⟨by simp [h.len], fun i hi => ?_⟩
  obtain ⟨_, v, hv, hr⟩ := h.get i xa[i] (by simp [hi])
  have hi2 : i < vs.length := by rw [← h.len]; exact hi
  have e1 : xa.getD i .junk = xa[i] := by simp [List.getD, hi]
  have e2 : vs.toArray.getD i undef = v := by
    simp only [Array.getD_eq_getD_getElem?, List.getElem?_toArray, hv, Option.getD_some]
  rw [e1, e2]
  exact hr
theorem openV {r : Reach} {base : Nat} {t : TypeId} {v : Value} {d : DataW H} {p : List MemPlace} (n : Nat) (hpl : plainT P n t = true) (hval : Value.okWide P w r base t v)
    (h : DataW.Trod enc P w 0 (fun _ => true) true t v d p) : ∃ xa, VR ⟨fun _ => none, w.cell?⟩ (asElem (isAggT P t) xa) v ∧ Sh P n t xa := by
  obtain ⟨fuel, hx⟩ := h
  obtain ⟨xa, h1, h2⟩ := opens n t v.cells.toList fuel _ hpl hx
  refine ⟨xa, ?_, h2⟩
  cases n with
  | zero => simp [plainT] at hpl
  | succ n =>
    unfold plainT at hpl
    unfold Value.okWide at hval
    cases hu : P.underlying t with
    | none => rw [hu] at hpl; cases hpl
    | some desc =>
      have plain : isAggT P t = false → (∀ cs, v ≠ .agg cs) → VR ⟨fun _ => none, w.cell?⟩ (asElem (isAggT P t) xa) v := by
        intro ha hv
        have : v.cells.toList = [v] := by
          cases v <;> first | rfl | exact absurd rfl (hv _)
        rw [this] at h1
        cases h1 with
        | cons k1 k2 k3 =>
          cases k3
          rw [ha]
          exact k1
      rw [hu] at hpl hval
      cases desc with
      | bool => exact plain (by simp [isAggT, hu]) (fun cs e => by subst e; simp [Cell.okWide, hu, Cell.ok] at hval)
      | int k => exact plain (by simp [isAggT, hu]) (fun cs e => by subst e; simp [Cell.okWide, hu, Cell.ok] at hval)
      | string => exact plain (by simp [isAggT, hu]) (fun cs e => by subst e; simp [Cell.okWide, hu, Cell.ok] at hval)
      | slice e => exact plain (by simp [isAggT, hu]) (fun cs e => by subst e; simp [Cell.okWide, hu, Cell.ok] at hval)
      | struct fs =>
        obtain ⟨cs, rfl, _, _⟩ := hval
        have ha : isAggT P t = true := by simp [isAggT, hu]
        rw [ha]
        obtain ⟨q1, q2⟩ := VL.vrs h1
        have : (Value.agg cs).cells.toList.toArray = cs := by simp [Value.cells]
        rw [this] at q1 q2
        exact .agg q1 q2 h1.one
      | _ => cases hpl
theorem VRs.cons2 {C : Cfg} {a : AV} {v : Value} {xa : List AV} {vs : List Value} (h : VR C a v) (k : VRs C xa vs.toArray) : VRs C (a :: xa) (v :: vs).toArray :=
  ⟨by simpa using k.1, fun i hi => by
    cases i with
    | zero => exact h
    | succ i =>
      have := k.2 i (by simpa using hi)
      simpa [List.getD, Array.getD_eq_getD_getElem?] using this⟩
theorem map_enc {α : Type} (c : Cd α) : ∀ (es : List AV), (∀ x ∈ es, ∃ y, x = c.enc y) → ∃ l : List α, es = l.map c.enc := by
  intro es
  induction es with
  | nil => intro _; exact ⟨[], rfl⟩
  | cons a es ih =>
    intro h
    obtain ⟨y, rfl⟩ := h a (by simp)
    obtain ⟨l, rfl⟩ := ih (fun x hx => h x (by simp [hx]))
    exact ⟨y :: l, rfl⟩
theorem Sh.slice {α : Type} (c : Cd α) {n : Nat} {t e : TypeId} {xa : List AV} (hu : P.underlying t = some (.slice e)) (he : ∀ xs, Sh P n e xs → ∃ y, asElem (isAggT P e) xs = c.enc y) (h : Sh P (n + 1) t xa) :
    ∃ (a : AV) (l : List α), xa = [a] ∧ isSl a (l.map c.enc) := by
  unfold Sh at h
  rw [hu] at h
  obtain ⟨a, es, rfl, h1, _, h3⟩ := h
  obtain ⟨l, rfl⟩ := map_enc c es (fun x hx => by
    obtain ⟨xs, rfl, k⟩ := h3 x hx
    obtain ⟨y, hy⟩ := he xs k
    exact ⟨y, hy⟩)
  exact ⟨a, l, rfl, h1⟩
theorem Sh.int {n : Nat} {t : TypeId} {k : IntKind} {xa : List AV} (hu : P.underlying t = some (.int k)) (h : Sh P (n + 1) t xa) : ∃ i, xa = [.int k i] ∧ (Lit.int k i).wf = true := by
  unfold Sh at h
  rw [hu] at h
  exact h
theorem Sh.struct {n : Nat} {t : TypeId} {fs : Array Field} {xa : List AV} (hu : P.underlying t = some (.struct fs)) (h : Sh P (n + 1) t xa) : ShF (Sh P n) fs.toList xa := by
  unfold Sh at h
  rw [hu] at h
  exact h
end
variable [Keep]
theorem Ext.below {C C' : Cfg} {h' : Heap} {w w' : World} (e : Ext C emptyHp (fun _ => False) w C' h' (fun _ => False) w') : Below w.heap.size w w' :=
  ⟨e.os, e.tape, e.output, e.size, fun k hk => e.same k hk emptyHp_live id⟩
end Go.AM
set_option maxRecDepth 100000
namespace Go.AM
open Go Go.ChangeShapes Go.WideShapes Go.ChangeAt Go.RowKit
section
variable {P : Program} {H : Type} {enc : TypeId × Value → H} {W : World}
inductive ArgsOk (P : Program) : List TypeId → List AV → Prop
  | nil : ArgsOk P [] []
  | cons {t : TypeId} {ts : List TypeId} {xs : List AV} {xa : List AV} : Sh P 9 t xs → ArgsOk P ts xa → ArgsOk P (t :: ts) (asElem (isAggT P t) xs :: xa)
theorem openAll {r : Reach} {base : Nat} : ∀ (ts : List TypeId) (vs : List Value) (ds : List (DataW H)) (ps : List MemPlace), DataW.TrodAll enc P W 0 (fun _ => true) true ts vs ds ps → (∀ t ∈ ts, plainT P 9 t = true) →
    (∀ (j : Nat) t v, ts[j]? = some t → vs[j]? = some v → Value.okWide P W r base t v) → ∃ avs, VRs ⟨fun _ => none, W.cell?⟩ avs vs.toArray ∧ ArgsOk P ts avs := by
  intro ts
  induction ts with
  | nil =>
    intro vs ds ps h _ _
    obtain ⟨rfl, _, _⟩ := trodAll_nil h
    exact ⟨[], ⟨rfl, fun i hi => by simp at hi⟩, .nil⟩
  | cons t ts ih =>
    intro vs ds ps h hp hv
    obtain ⟨v, vs', d, ds', p, q, rfl, rfl, rfl, h1, h2⟩ := trodAll_cons h
    obtain ⟨xs, k1, k2⟩ := openV 9 (hp t (by simp)) (hv 0 t v rfl rfl) h1
    obtain ⟨xa, g1, g2⟩ := ih vs' ds' q h2 (fun t' ht' => hp t' (by simp [ht'])) (fun j t' v' e1 e2 => hv (j + 1) t' v' (by simpa using e1) (by simpa using e2))
    exact ⟨_, VRs.cons2 k1 g1, .cons k2 g2⟩
theorem backAll {W' : World} (hl : laidOutB P = true) (hb : Below W.heap.size W W') : ∀ (ts : List TypeId) (vs : List Value) (ds : List (DataW H)) (ps : List MemPlace), DataW.TrodAll enc P W 0 (fun _ => true) true ts vs ds ps →
    (∀ t ∈ ts, P.readableRec t = true ∧ t < P.types.size) → (∀ x ∈ ps, x.block < W.heap.size) → DataW.TrodAll enc P W' 0 (fun b => decide (b < W.heap.size)) true ts vs ds ps := by
  intro ts
  induction ts with
  | nil =>
    intro vs ds ps h _ _
    obtain ⟨rfl, rfl, rfl⟩ := trodAll_nil h
    exact trodAll_mk0
  | cons t ts ih =>
    intro vs ds ps h hp hlt
    obtain ⟨v, vs', d, ds', p, q, rfl, rfl, rfl, h1, h2⟩ := trodAll_cons h
    exact ⟨p, q, Below.trod hl (hp t (by simp)).1 (hp t (by simp)).2 h1 hb (fun x hx => hlt x (by simp [hx])), ih vs' ds' q h2 (fun t' ht' => hp t' (by simp [ht'])) (fun x hx => hlt x (by simp [hx])), rfl⟩
end
end Go.AM
namespace Go.Proofs.YtlhcjccaimmhgaaGreatDoor
open Go Go.AM Go.ChangeShapes Go.WideShapes Go.ChangeAt Go.RowKit
def laidL : List (String × DataW Unit) := [("math/bits.deBruijn32tab", Rows.laid_math_bits_deBruijn32tab), ("math/bits.deBruijn64tab", Rows.laid_math_bits_deBruijn64tab), ("internal/strconv.uint64pow10", Rows.laid_internal_strconv_uint64pow10)]
theorem own : ownKnob Tryz.prog.godebug = none := by kernel_rfl
theorem gPow : Tryz.prog.globalNamed "internal/strconv.uint64pow10" = some 0 := by kernel_rfl
theorem tPow : (Tryz.prog.globals[0]?).map (·.type) = some 294 := by kernel_rfl
theorem uPow : ∃ e, Tryz.prog.underlying 294 = some (.array 20 e) ∧ Tryz.prog.underlying e = some (.int .u64) ∧ Tryz.prog.cellsOf e = 1 := ⟨(match Tryz.prog.underlying 294 with | some (.array _ e) => e | _ => 0), by kernel_rfl, by kernel_rfl, by kernel_rfl⟩
theorem cPow : Tryz.prog.cellsOf 294 = 20 := by kernel_rfl
theorem dPow : Rows.laid_internal_strconv_uint64pow10 (H := Unit) = Lib.tabData .u64 Lib.pow10Tab := by kernel_rfl
theorem laidOut : laidOutB Tryz.prog = true := by kernel_rfl
theorem tabK_of {W : World} (hL : laidMetH Tryz.prog laidL W) : @TabK ⟨W.cell?, fun b => W.heap[b]?⟩ Tryz.prog := by
  rw [MakeChecks.laidMetH_plain _ _ _ (by kernel_rfl)] at hL
  obtain ⟨ps, ⟨_, _, _, _, _, _, _, _, _, _, ⟨_, _, _, _, _, _, _, _, _, _, ⟨g, t, cs, fuel, p, q, hg, ht, hv, hd, _, _⟩, _⟩, _⟩, _, _⟩ := hL
  obtain rfl := Option.some.inj (gPow.symm.trans hg)
  obtain rfl := Option.some.inj (tPow.symm.trans ht)
  obtain ⟨e, u1, u2, u3⟩ := uPow
  rw [dPow] at hd
  have hcs := Lib.cells_of_tab u1 u2 u3 cPow hd
  intro w h
  have hheap : ∃ T fr, W.heap[0]? = some (.cells cs T fr) := by
    unfold World.var? at hv
    rw [gPow] at hv
    simp only [Option.bind_some] at hv
    split at hv
    · rename_i c T fr hh
      cases hv
      exact ⟨T, fr, hh⟩
    · cases hv
  obtain ⟨T, fr, hh⟩ := hheap
  have h0 : W.cell? ⟨0, 0, none⟩ = some (.int .u64 1) := by
    have := World.var?_cell hg hv 0
    rw [this]
    have : cs.toList[0]? = some (.int .u64 1) := by rw [hcs]; rfl
    simpa using this
  have hw := h ⟨0, 0, none⟩ _ _ h0 hh
  unfold Lib.TabIs World.var?
  rw [gPow]
  simp only [Option.bind_some, hw]
  rw [← hcs]
theorem lawHolds {f : FuncId} {fn : Func} {s : ChangeSpec} {H : Type} {enc : TypeId × Value → H} (hfn : Tryz.prog.funcs[f]? = some fn) (hres : fn.resultTypes = #[4]) (hvars : s.vars = [])
    (hs : ∀ ds : List (DataW H), ds.length = fn.params.size → s.fn H ds = { results := [.lit (.bool true)], args := ds })
    (hpl : ∀ t ∈ fn.params.toList, plainT Tryz.prog 9 t = true) (hrd : ∀ t ∈ fn.params.toList, Tryz.prog.readableRec t = true ∧ t < Tryz.prog.types.size)
    (law : ∀ [Keep], TabK Tryz.prog → ∀ avs, ArgsOk Tryz.prog fn.params.toList avs → ∃ X, X.P = Tryz.prog ∧ Sound X ∧ ∃ h', Cl X f avs emptyHp (.ret (.bool true) h' none))
    (W : World) (base : Nat) (args : Array Value) (ds gs : List (DataW H)) (before : List MemPlace)
    (hval : ∀ (j : Nat) t v, fn.params[j]? = some t → args[j]? = some v → Value.okWide Tryz.prog W .any base t v)
    (hW : DataW.Whole enc Tryz.prog fn.params.toList s.vars false W args.toList ds gs before) (hL : laidMetH Tryz.prog laidL W) :
    Calls Tryz.prog f args W fun e W' => ∃ v, e = .returned v ∧ s.post enc Tryz.prog fn false true false false W args v W' := by
  have hW' := hW
  obtain ⟨p, q, hA, hV, hpq, _, _⟩ := hW
  rw [hvars] at hV
  obtain ⟨rfl, rfl⟩ := trodVars_none hV
  have hlen : ds.length = fn.params.size := by simpa using (trodAll_length hA).2
  obtain ⟨avs, h1, h2⟩ := openAll fn.params.toList args.toList ds p hA hpl (fun j t v e1 e2 => hval j t v (by simpa using e1) (by simpa using e2))
  letI : Keep := ⟨W.cell?, fun b => W.heap[b]?⟩
  obtain ⟨X, hX, hsound, h', hcl⟩ := law (tabK_of hL) avs h2
  have wr : WR ⟨fun _ => none, W.cell?⟩ emptyHp W := ⟨fun _ _ e => e, fun id blk e => by simp [emptyHp, Heap.get] at e, fun id id' blk blk' L L' e => by simp [emptyHp, Heap.get] at e, fun id blk L x v e => by simp [emptyHp, Heap.get] at e, fun id L e => (by cases e), ⟨fun _ _ e => e, fun x v o _ e => e⟩⟩
  have hc := hsound.calls hcl wr (vs := args) (by simpa using h1)
  rw [hX] at hc
  refine hc.mono fun e W' ⟨C', u, he, hu, _, hext⟩ => ?_
  subst he
  cases hu
  have hbelow := hext.below
  have hlt : ∀ x ∈ p, x.block < W.heap.size := fun x hx => by simpa using hW'.lt x (by rw [hpq]; simp [hx])
  refine ⟨_, rfl, ds, [], before, [], p, [], hW', ?_, ?_, ?_, hbelow.frame _, fun h => by cases h⟩
  · rw [List.append_nil, hs ds hlen, hres]
    exact trodAll_mk1 (shut_bool Tryz.underlying4 true)
  · rw [List.append_nil, hs ds hlen]
    exact backAll laidOut hbelow _ _ _ _ hA hrd hlt
  · rw [List.append_nil, hs ds hlen, hvars]
    rfl
end Go.Proofs.YtlhcjccaimmhgaaGreatDoor
