/-
  A part of the proof: contracts of functions.
-/
import Derived.Test.YtlhcjccaimmhgaaGreatDoorPAO
import Derived.Test.YtlhcjccaimmhgaaGreatDoorPAK
import Derived.Test.YtlhcjccaimmhgaaGreatDoorPAF
set_option linter.unusedSectionVars false
set_option linter.unusedVariables false
set_option linter.unusedSimpArgs false
set_option maxRecDepth 100000
namespace Go.AM
open Go Go.Proofs
variable [Keep]
attribute [local irreducible] W WO WO1 WD WQ WT thenQ blockQ endR isRet retK Cl ClR
def stepB (w : Sp) (l : List Int) (k : Nat) : Bool := inB (w64 (l.getD (k + 1) 0 - l.getD k 0)) w.lo w.hi
def rdgF (r : Rdg) (xs ys : List Int) : Bool := inB (w64 (xs.getD r.b.toNat 0 - r.x)) (w64 (-r.err)) r.err && inB (w64 (ys.getD r.b.toNat 0 - r.y)) (w64 (-r.err)) r.err
def fitsR (cx cy wx wy : Sp) (rs : List Rdg) (xs ys : List Int) : Bool :=
 (inB (xs.getD 0 0) cx.lo cx.hi && inB (ys.getD 0 0) cy.lo cy.hi) && ((List.range 12).all (fun k => stepB wx xs k && stepB wy ys k) && rs.all (fun r => rdgF r xs ys))
end Go.AM
namespace Go.AM
open Go Go.Proofs
variable [Keep]
attribute [local irreducible] W WO WO1 WD WQ WT thenQ blockQ endR isRet retK Cl ClR
def inL (l : List Int) (m : Lim) : Bool := inB (l.getD m.b.toNat 0) m.lo m.hi
def fitsA (ax : Ax) (l : List Int) : Bool := inB (l.getD 0 0) ax.chuck.lo ax.chuck.hi && ((List.range 12).all (fun k => stepB ax.wear l k) && ax.limits.all (inL l))
def isFit (h : Heap) (b : Bool) (r : COut) : Prop := ∃ h', HExt h h' ∧ r = .ret (.bool b) h' none
attribute [local irreducible] isFit
theorem RdL.ext {h h' : Heap} {v : AV} {l : List Lim} (r : RdL h v l) (e : HExt h h') : RdL h' v l :=
 ⟨r.len, r.out, r.max, r.one, r.tup, fun k m hk hp hq => r.get k m hk hp (fun id hi => (hq id (Nat.lt_of_lt_of_le hi e.1)).trans (e.2 id hi))⟩
end Go.AM
namespace Go.AM
open Go Go.Proofs
variable [Keep]
attribute [local irreducible] W WO WO1 WD WQ WT thenQ blockQ endR isRet retK Cl ClR
attribute [local irreducible] boundsS machB
section
variable {X : Ctx} {f : FuncId} {ops : Array Oper} {ts : List (Nat × Trace)} {i k : Nat} {r : List (Nat × Nat)} {x : Oper} {d : Option Tmp} {op : Op} {T : TypeId} {ps : String} {af : Array Edge}
  {f1 f2 : FuncId} {r1 r2 : Bool} {e1 e2 : Mp AV} {lm1 lm2 : Mp (Nat × List AV)} {hp1 hp2 : Heap} {df1 df2 : List (AV × List AV)} {up1 up2 : Option (AV × Bool)} {v1 v2 : AV} {a1 a2 : Fr} {j : Nat} {want b : Bool} {o : Oper} {s : Tmp}
end
def fitsM (cx cy wx wy : Sp) (rs : List Rdg) (xs ys : List Int) : Bool := fitsA ⟨cx, wx, lims155 rs⟩ xs && fitsA ⟨cy, wy, lims156 rs⟩ ys
end Go.AM
namespace Go.AM
open Go
variable [Keep]
theorem num_small {l : List Int} (h : l.all okN = true) (k : Nat) : -80 ≤ l.getD k 0 ∧ l.getD k 0 ≤ 80 := by
 rcases Nat.lt_or_ge k l.length with hk | hk
 ·have := List.all_eq_true.1 h l[k] (List.getElem_mem hk)
  simp only [okN, inB, Bool.and_eq_true, decide_eq_true_eq] at this
  simp [List.getD, hk]
  omega
 ·simp [List.getD, List.getElem?_eq_none hk]
end Go.AM
namespace Go.AM
open Go
variable [Keep]
def viewD (h : Heap) (a : AV) : Option AV :=
 match a with
 | .agg l => (viewVs h l).map AV.agg
 | a => viewV h a
def viewDs (h : Heap) : List AV → Option (List AV)
 | [] => some []
 | a :: r => match viewD h a, viewDs h r with
  | some x, some l => some (x :: l)
  | _, _ => none
def flatFnD (spec : List AV → Option AV) : List AV → Heap → Option (AV × Heap) := fun args h => match viewDs h args with
 | some l => (match spec l with | some v => some (v, h) | none => none)
 | none => none
theorem viewV_one {h : Heap} {a a' : AV} (e : viewV h a = some a') (ho : a.one = true) : a'.one = true := by
 unfold viewV at e
 split at e
 ·split at e
  ·split at e
   ·split at e
    ·cases e; rfl
    ·cases e
   ·cases e
  ·cases e
 ·split at e
  ·cases e; exact ho
  ·cases e
theorem viewVs_get {h : Heap} : ∀ {l l' : List AV}, viewVs h l = some l' → l'.length = l.length ∧ ∀ i, i < l.length → viewV h (l.getD i .junk) = some (l'.getD i .junk) := by
 intro l
 induction l with
 | nil => intro l' e; simp only [viewVs, Option.some.injEq] at e; subst e; exact ⟨rfl, fun i hi => by simp at hi⟩
 | cons a l ih =>
  intro l' e
  simp only [viewVs] at e
  split at e
  ·rename_i x l1 hx hl
   cases e
   obtain ⟨h1, h2⟩ := ih hl
   refine ⟨by simp [h1], fun i hi => ?_⟩
   cases i with
   | zero => simpa using hx
   | succ i => simpa using h2 i (by simpa using hi)
  ·cases e
theorem purL_of : ∀ {l : List AV}, (∀ a ∈ l, a.pur = true) → AV.purL l = true := by
 intro l
 induction l with
 | nil => intro _; rfl
 | cons a l ih =>
  intro h
  simp only [AV.purL, Bool.and_eq_true]
  exact ⟨h a (by simp), ih (fun b hb => h b (by simp [hb]))⟩
variable {C : Cfg} {h : Heap} {w : World}
theorem viewD_ok (r : WR C h w) {a a' : AV} {v : Value} (hv : VR C a v) (e : viewD h a = some a') : a'.pur = true ∧ VR ⟨fun _ => none, w.cell?⟩ a' v := by
 unfold viewD at e
 split at e
 ·rename_i l
  simp only [Option.map_eq_some_iff] at e
  obtain ⟨l', e, rfl⟩ := e
  obtain ⟨e1, e2⟩ := viewVs_get e
  cases hv with
  | agg h1 h2 h3 =>
   have hk : ∀ i, i < l.length → (l'.getD i .junk).pur = true ∧ VR ⟨fun _ => none, w.cell?⟩ (l'.getD i .junk) _ := fun i hi => viewV_ok r (h2 i hi) (e2 i hi)
   refine ⟨?_, .agg (by omega) (fun i hi => (hk i (by omega)).2) (fun c hc => ?_)⟩
   ·simp only [AV.pur]
    refine purL_of fun b hb => ?_
    obtain ⟨i, hi⟩ := List.mem_iff_getElem?.1 hb
    have hil : i < l.length := by
     rcases Nat.lt_or_ge i l.length with q | q
     ·exact q
     ·rw [List.getElem?_eq_none (by omega)] at hi; cases hi
    have := (hk i hil).1
    simpa [List.getD, hi] using this
   ·obtain ⟨i, hi⟩ := List.mem_iff_getElem?.1 hc
    have hil : i < l.length := by
     rcases Nat.lt_or_ge i l.length with q | q
     ·exact q
     ·rw [List.getElem?_eq_none (by omega)] at hi; cases hi
    have h5 := e2 i hil
    have h6 : (l'.getD i .junk) = c := by simp [List.getD, hi]
    rw [h6] at h5
    refine viewV_one h5 (h3 _ ?_)
    have : l.getD i .junk = l[i] := by simp [List.getD, hil]
    rw [this]
    exact List.getElem_mem hil
 ·exact viewV_ok r hv e
theorem viewDs_ok (r : WR C h w) : ∀ {l l' : List AV} {vs : Array Value}, VRs C l vs → viewDs h l = some l' → (∀ a ∈ l', a.pur = true) ∧ VRs ⟨fun _ => none, w.cell?⟩ l' vs := by
 intro l
 induction l with
 | nil =>
  intro l' vs hv e
  simp only [viewDs, Option.some.injEq] at e
  subst e
  exact ⟨by simp, hv.1, fun i hi => by simp at hi⟩
 | cons a l ih =>
  intro l' vs hv e
  simp only [viewDs] at e
  split at e
  ·rename_i x l1 hx hl
   cases e
   have h0 : VR C a (vs.getD 0 undef) := by simpa using hv.2 0 (by simp)
   obtain ⟨p1, p2⟩ := viewD_ok r h0 hx
   have hsz : vs.size = l.length + 1 := by have := hv.1; simpa using this
   have ht : VRs C l (vs.extract 1 vs.size) := by
    refine ⟨by simp [hsz], fun i hi => ?_⟩
    have := hv.2 (i + 1) (by simp; omega)
    have e2 : (vs.extract 1 vs.size).getD i undef = vs.getD (i + 1) undef := by
     simp only [Array.getD_eq_getD_getElem?]
     rw [Array.getElem?_extract]
     have : i < vs.size - 1 := by omega
     simp [this, Nat.add_comm]
    rw [e2]
    simpa using this
   obtain ⟨q1, q2⟩ := ih ht hl
   refine ⟨by simpa [p1] using q1, ?_⟩
   have := VRs.cons p2 q2
   have e3 : #[vs.getD 0 undef] ++ vs.extract 1 vs.size = vs := by
    apply Array.ext_getElem?
    intro i
    cases i with
    | zero =>
     have : 0 < vs.size := by omega
     simp [Array.getElem?_append, Array.getD_eq_getD_getElem?, this]
    | succ i =>
     rw [Array.getElem?_append_right (by simp)]
     simp only [List.size_toArray, List.length_cons, List.length_nil, Nat.zero_add, Nat.add_sub_cancel, Array.getElem?_extract]
     by_cases hi : i < vs.size - 1
     ·simp [hi, Nat.add_comm]
     ·have : vs.size ≤ i + 1 := by omega
      simp [hi, this]
   rw [e3] at this
   exact this
  ·cases e
theorem flatD_intr {X : Ctx} (s : Sound X) {f : FuncId} {spec : List AV → Option AV} (hp : ∀ args v, spec args = some v → v.flat = true) (hr : ∀ args v, spec args = some v → ∃ h', Cl X f args emptyHp (.ret v h' none)) : IntrFn X.P f (flatFnD spec) := by
  intro args h v h' hg C w vs r hv
  unfold flatFnD at hg
  split at hg
  · rename_i l hl
    split at hg
    · rename_i u hsp
      cases hg
      obtain ⟨h1, n, hn⟩ := hr l v hsp
      have hcall := hn n (Nat.le_refl _)
      obtain ⟨p1, p2⟩ := viewDs_ok r hv hl
      have hok := s.call n f l emptyHp ⟨fun _ => none, w.cell?⟩ w vs ⟨fun _ _ h => h, fun id blk e => by simp [emptyHp, Heap.get] at e, fun id id' blk blk' L L' e => by simp [emptyHp, Heap.get] at e, fun id blk L x v e => by simp [emptyHp, Heap.get] at e, fun id L e => (by cases e), r.base.on r.sig (fun _ _ _ => rfl)⟩ p2 (by rw [hcall]; intro e; cases e)
      refine ⟨hok.1, fun cs => ?_⟩
      have := hok.2 cs
      rw [hcall] at this
      obtain ⟨C', w', fr, u, q1, q2, q3, q4, q5, q6⟩ := this
      have hsame : ∀ β, β < w.heap.size → w'.heap[β]? = w.heap[β]? := fun β hb => q6.same β hb emptyHp_live id
      refine ⟨C, w', fr, u, q1, q2, q3, q4.flat (hp _ _ hsp), ⟨fun x u e => ?_, fun id blk e => ?_, r.inj, r.apart, r.fresh, r.base.on (fun _ _ e => e) (fun x v e => hsame _ (WR.sig_lt (F := Fr.mk 0 false .nil .nil h [] none) r e))⟩, ?_⟩
      · have h1 := r.sig x u e
        have hb := WR.sig_lt (F := Fr.mk 0 false .nil .nil h [] none) r e
        unfold World.cell? at h1 ⊢
        rw [hsame _ hb]
        exact h1
      · obtain ⟨L, k1, k2⟩ := r.blk id blk e
        exact ⟨L, k1, k2.same (.refl C) (hsame _ k2.lt)⟩
      · exact { le := .refl C, os := q6.os, tape := q6.tape, output := q6.output, size := q6.size, same := fun β hb _ _ => hsame β hb, live := fun β hb l => .inl l,
                own := fun _ _ o => o.elim, sig := fun x u hb e => .inl e, next := Nat.le_refl _ }
    · cases hg
  · cases hg
end Go.AM
namespace Go.AM
open Go
variable [Keep]
theorem Blt.view {h : Heap} {v : AV} {sz : Nat} {l : List AV} (b : Blt h v sz l) (hp : ∀ a ∈ l, a.pur = true) : viewV h v = some (slN l) := by
 rcases b with ⟨rfl, rfl⟩ | ⟨id, rfl, hg, h3, hne⟩
 ·rfl
 ·have h1 : AV.purL l = true := purL_of hp
  cases l with
  | nil => exact absurd rfl hne
  | cons x l => simp [viewV, hg, h1, slN]
structure Four (h : Heap) (a b c d : AV) (k l m n : List AV) : Prop where
 ba : Blt h a 1 k
 bb : Blt h b 1 l
 bc' : Blt h c 1 m
 bd' : Blt h d 1 n
 ab : Sep a b
 ac : Sep a c
 ad : Sep a d
 bc : Sep b c
 bd : Sep b d
 cd : Sep c d
section
variable {h h' : Heap} {a b c d v : AV} {k l m n r : List AV} {i : Nat}
theorem Four.nil : Four h .nilslice .nilslice .nilslice .nilslice [] [] [] [] := ⟨.nil, .nil, .nil, .nil, .nil _, .nil _, .nil _, .nil _, .nil _, .nil _⟩
theorem Four.one (q : Four h a b c d k l m n) (hb : Blt h' v 1 r) (hk : Keeps h h' a) (he : v = .row h.next 0 i) : Four h' v b c d r l m n := by
 subst he
 exact ⟨hb, q.bb.apart hk q.ab, q.bc'.apart hk q.ac, q.bd'.apart hk q.ad, .new q.bb (Nat.le_refl _) _, .new q.bc' (Nat.le_refl _) _, .new q.bd' (Nat.le_refl _) _, q.bc, q.bd, q.cd⟩
theorem Four.turn (q : Four h a b c d k l m n) : Four h b c d a l m n k := ⟨q.bb, q.bc', q.bd', q.ba, q.bc, q.bd, q.ab.symm, q.cd, q.ac.symm, q.ad.symm⟩
theorem Four.two (q : Four h a b c d k l m n) (hb : Blt h' v 1 r) (hk : Keeps h h' b) (he : v = .row h.next 0 i) : Four h' a v c d k r m n := (q.turn.one hb hk he).turn.turn.turn
end
end Go.AM
namespace Go.AM
open Go Go.Proofs
variable [Keep]
attribute [local irreducible] W WO WO1 WD WQ WT thenQ blockQ endR isRet retK Cl ClR
attribute [local irreducible] boundsS machB fitsM fitsR truthB
theorem K138 {X : Ctx} (hX : X.intr 138 = some (pureFn sp138)) (a : AV) (l : List Pt) (x y : Int) (ha : slV ptC a = some l) (h : Heap) : Cl X 138 [a, .agg [.int .i64 x, .int .i64 y]] h (.ret (slN ((movedL l x y).map ptC.enc)) h none) :=
 Cl.intr hX (by simp [pureFn, AV.pur, AV.purL, sl_pur ha, sp138, ha])
end Go.AM
