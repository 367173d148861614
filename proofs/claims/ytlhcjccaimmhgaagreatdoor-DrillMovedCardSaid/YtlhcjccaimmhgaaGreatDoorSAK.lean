/-
  Texts of the proof: an evaluator of the program's code, its soundness, contracts of functions.
-/
import Derived.Test.YtlhcjccaimmhgaaGreatDoorSAH
import Derived.Test.YtlhcjccaimmhgaaGreatDoorSAG
import Derived.Test.YtlhcjccaimmhgaaGreatDoorSAE
import Derived.Test.YtlhcjccaimmhgaaGreatDoorSAD
import Derived.Test.YtlhcjccaimmhgaaGreatDoorSAJ
import Derived.Test.YtlhcjccaimmhgaaGreatDoorSAF
import Derived.Test.YtlhcjccaimmhgaaGreatDoorSAI
set_option linter.unusedSectionVars false
set_option linter.unusedVariables false
set_option linter.unusedSimpArgs false
set_option maxRecDepth 100000
namespace Go.AM
open Go Go.Proofs
variable [Keep]
attribute [local irreducible] W WO WO1 WD WQ WT thenQ blockQ endR isRet retK Cl ClR
attribute [local irreducible] roundQ RdR clR
section
variable {α β σ : Type}
def foldS (f : α → σ → σ × Bool) : List α → σ → σ × Bool
 | [], s => (s, true)
 | x :: r, s => if (f x s).2 then foldS f r (f x s).1 else f x s
theorem foldS_go {f : α → σ → σ × Bool} {s s' : σ} : ∀ {l r : List α}, foldS f l s = (s', true) → foldS f (l ++ r) s = foldS f r s' := by
 intro l
 induction l generalizing s with
 | nil => intro r h; simp only [foldS, Prod.mk.injEq, and_true] at h; subst h; rfl
 | cons x l ih =>
  intro r h
  simp only [List.cons_append, foldS] at h ⊢
  split at h
  ·rename_i q; rw [if_pos q]; exact ih h
  ·rename_i q; rw [h] at q; exact absurd rfl q
theorem foldS_stop {f : α → σ → σ × Bool} {s s' : σ} : ∀ {l r : List α}, foldS f l s = (s', false) → foldS f (l ++ r) s = (s', false) := by
 intro l
 induction l generalizing s with
 | nil => intro r h; simp [foldS] at h
 | cons x l ih =>
  intro r h
  simp only [List.cons_append, foldS] at h ⊢
  split at h
  ·rename_i q; rw [if_pos q]; exact ih h
  ·rename_i q; rw [if_neg q]; exact h
theorem foldS_take {f : α → σ → σ × Bool} {g : Nat → List α} {s s' : σ} {i n : Nat} (hi : i ≤ n) (h : foldS f ((List.range i).flatMap g) s = (s', false)) : foldS f ((List.range n).flatMap g) s = (s', false) := by
 obtain ⟨d, rfl⟩ : ∃ d, n = i + d := ⟨n - i, by omega⟩
 rw [List.range_add, List.flatMap_append]
 exact foldS_stop h
theorem foldS_more {f : α → σ → σ × Bool} {g : Nat → List α} {s s' : σ} {i : Nat} (h : foldS f ((List.range i).flatMap g) s = (s', true)) : foldS f ((List.range (i + 1)).flatMap g) s = foldS f (g i) s' := by
 rw [List.range_succ, List.flatMap_append, foldS_go h]
 simp
end
section
variable {α σ : Type}
theorem R_fold {R : List α → σ → Prop} {step : α → σ → σ × Bool} (hR : ∀ o rem s s', R (o :: rem) s → step o s = (s', true) → R rem s') : ∀ (l rem : List α) (s s' : σ), R (l ++ rem) s → foldS step l s = (s', true) → R rem s' := by
 intro l
 induction l with
 | nil => intro rem s s' h e; simp only [foldS, Prod.mk.injEq, and_true] at e; subst e; exact h
 | cons o l ih =>
  intro rem s s' h e
  simp only [foldS] at e
  split at e
  ·rename_i q
   refine ih rem _ s' (hR o (l ++ rem) s _ h ?_) e
   rw [← q]
  ·rename_i q; rw [e] at q; exact absurd rfl q
end
theorem range_cut {α : Type} (g : Nat → List α) {i n : Nat} (hi : i < n) : (List.range n).flatMap g = (List.range i).flatMap g ++ (g i ++ ((List.range n).drop (i + 1)).flatMap g) := by
 have e : List.range n = List.range i ++ i :: (List.range n).drop (i + 1) := by
  have h1 := (List.take_append_drop i (List.range n)).symm
  rw [List.take_range, Nat.min_eq_left (by omega), List.drop_eq_getElem_cons (by simpa using hi), List.getElem_range] at h1
  exact h1
 conv => lhs; rw [e]
 rw [List.flatMap_append, List.flatMap_cons]
def ordsL (n : Nat) : Nat → List Nat → List (List Nat)
 | 0, p => [p]
 | d + 1, p => (List.range n).flatMap fun i => if p.contains i then [] else ordsL n d (p ++ [i])
def Rel (own : Heap → Nat → Prop) (h h' : Heap) : Prop := h.next ≤ h'.next ∧ ∀ id, id < h.next → ¬ own h id → h'.get id = h.get id ∧ ¬ own h' id
theorem Rel.refl (own : Heap → Nat → Prop) (h : Heap) : Rel own h h := ⟨Nat.le_refl _, fun _ _ k => ⟨rfl, k⟩⟩
theorem Rel.trans {own : Heap → Nat → Prop} {a b d : Heap} (h : Rel own a b) (k : Rel own b d) : Rel own a d :=
 ⟨Nat.le_trans h.1 k.1, fun id hi ho => by
  have h1 := h.2 id hi ho
  have h2 := k.2 id (Nat.lt_of_lt_of_le hi h.1) h1.2
  exact ⟨h2.1.trans h1.1, h2.2⟩⟩
structure OwnOk {σ : Type} (I : σ → Heap → Prop) (own : Heap → Nat → Prop) : Prop where
 loc : ∀ s h h', I s h → h.next ≤ h'.next → (∀ id, own h id → h'.get id = h.get id) → I s h' ∧ ∀ id, own h' id → own h id
 lt : ∀ s h id, I s h → own h id → id < h.next
theorem OwnOk.ext {σ : Type} {I : σ → Heap → Prop} {own : Heap → Nat → Prop} (ok : OwnOk I own) (s : σ) (h h' : Heap) (i : I s h) (x : HExt h h') : I s h' ∧ ∀ id, own h' id → own h id :=
 ok.loc s h h' i x.1 fun id o => x.2 id (ok.lt s h id i o)
def RelE (ex : Nat → Prop) (own : Heap → Nat → Prop) (h h' : Heap) : Prop := h.next ≤ h'.next ∧ ∀ id, id < h.next → ¬ ex id → ¬ own h id → h'.get id = h.get id
theorem Rel.stop {ex : Nat → Prop} {own : Heap → Nat → Prop} {a b d : Heap} (h : Rel own a b) (k : RelE ex own b d) : RelE ex own a d :=
 ⟨Nat.le_trans h.1 k.1, fun id hi he ho => by
  have h1 := h.2 id hi ho
  exact (k.2 id (Nat.lt_of_lt_of_le hi h.1) he h1.2).trans h1.1⟩
theorem OwnOk.rel {σ : Type} {I : σ → Heap → Prop} {own : Heap → Nat → Prop} (ok : OwnOk I own) {s : σ} {h h' : Heap} (i : I s h) (x : HExt h h') : Rel own h h' :=
 ⟨x.1, fun id hi ho => ⟨x.2 id hi, fun k => ho ((ok.ext s h h' i x).2 id k)⟩⟩
def FreeV (own : Heap → Nat → Prop) (h : Heap) (a : AV) : Prop := ∀ id off n, a = .row id off n → ¬ own h id
theorem FreeV.rel {own : Heap → Nat → Prop} {h h' : Heap} {a : AV} {sz : Nat} {l : List AV} (r : Rel own h h') (b : Blt h a sz l) (f : FreeV own h a) : Blt h' a sz l ∧ FreeV own h' a := by
 rcases b with ⟨rfl, rfl⟩ | ⟨id, rfl, r2, r3, r4⟩
 ·exact ⟨.inl ⟨rfl, rfl⟩, fun id off n e => by cases e⟩
 ·have h1 := r.2 id r3 (f id _ _ rfl)
  exact ⟨.inr ⟨id, rfl, h1.1.trans r2, Nat.lt_of_lt_of_le r3 r.1, r4⟩, fun id' off n e => by cases e; exact h1.2⟩
def stR {σ : Type} (I D : σ → Heap → Prop) (own : Heap → Nat → Prop) (ex : Nat → Prop) (h : Heap) (x : σ × Bool) (r : COut) : Prop :=
 ∃ h', r = .ret (.bool x.2) h' none ∧ (x.2 = true → I x.1 h' ∧ Rel own h h') ∧ (x.2 = false → D x.1 h' ∧ RelE ex own h h')
def stU {σ : Type} (I D : σ → Heap → Prop) (own : Heap → Nat → Prop) (ex : Nat → Prop) (h : Heap) (x : σ × Bool) (r : COut) : Prop :=
 ∃ h', r = .ret (.tuple []) h' none ∧ (x.2 = true → I x.1 h' ∧ Rel own h h') ∧ (x.2 = false → D x.1 h' ∧ RelE ex own h h')
section
variable {σ : Type} {I D : σ → Heap → Prop} {own : Heap → Nat → Prop} {ex : Nat → Prop} {h h' : Heap} {x : σ × Bool}
theorem stR_fail : ¬ stR I D own ex h x .fail := by rintro ⟨h', e, _⟩; cases e
theorem stU_fail : ¬ stU I D own ex h x .fail := by rintro ⟨h', e, _⟩; cases e
theorem stR_go {s : σ} (e : x = (s, true)) (i : I s h') (k : Rel own h h') : stR I D own ex h x (.ret (.bool true) h' none) := by
 subst e; exact ⟨h', rfl, fun _ => ⟨i, k⟩, fun e => by cases e⟩
theorem stR_end {s : σ} (e : x = (s, false)) (i : D s h' ∧ RelE ex own h h') : stR I D own ex h x (.ret (.bool false) h' none) := by
 subst e; exact ⟨h', rfl, (fun e => by cases e), fun _ => i⟩
theorem stU_go {s : σ} (e : x = (s, true)) (i : I s h') (k : Rel own h h') : stU I D own ex h x (.ret (.tuple []) h' none) := by
 subst e; exact ⟨h', rfl, fun _ => ⟨i, k⟩, fun e => by cases e⟩
theorem stU_end {s : σ} (e : x = (s, false)) (i : D s h' ∧ RelE ex own h h') : stU I D own ex h x (.ret (.tuple []) h' none) := by
 subst e; exact ⟨h', rfl, (fun e => by cases e), fun _ => i⟩
theorem stR_or {r : COut} (q : stR I D own ex h x r) : (∃ s h', x = (s, true) ∧ r = .ret (.bool true) h' none ∧ I s h' ∧ Rel own h h') ∨ (∃ s h', x = (s, false) ∧ r = .ret (.bool false) h' none ∧ D s h' ∧ RelE ex own h h') := by
 obtain ⟨h', rfl, q1, q2⟩ := q
 obtain ⟨s, b⟩ := x
 cases b
 ·exact .inr ⟨s, h', rfl, rfl, q2 rfl⟩
 ·exact .inl ⟨s, h', rfl, rfl, q1 rfl⟩
theorem stU_or {r : COut} (q : stU I D own ex h x r) : (∃ s h', x = (s, true) ∧ r = .ret (.tuple []) h' none ∧ I s h' ∧ Rel own h h') ∨ (∃ s h', x = (s, false) ∧ r = .ret (.tuple []) h' none ∧ D s h' ∧ RelE ex own h h') := by
 obtain ⟨h', rfl, q1, q2⟩ := q
 obtain ⟨s, b⟩ := x
 cases b
 ·exact .inr ⟨s, h', rfl, rfl, q2 rfl⟩
 ·exact .inl ⟨s, h', rfl, rfl, q1 rfl⟩
end
set_option maxHeartbeats 4000000 in
theorem G168 {σ : Type} (I D : σ → Heap → Prop) (own : Heap → Nat → Prop) (ex : Nat → Prop) (ok : OwnOk I own) (step : List Nat → σ → σ × Bool) (R : List (List Nat) → σ → Prop) (hR : ∀ o rem s s', R (o :: rem) s → step o s = (s', true) → R rem s') (c : FuncId → Option (List AV → Heap → Option (AV × Heap))) (hc : c 168 = none) (hc2 : c 116 = some (flatFn sp116)) (hc3 : c 118 = none) (n L bm bn bs : Nat) (hn : n ≤ 8) (hb : Heap)
  (g1 : hb.get bm = some (.var [.int .i64 ↑n])) (g2 : hb.get bn = some (.var [.yield L])) (g3 : hb.get bs = some (.var [.func (.func 168) [] [.ptr bm 0, .ptr bn 0, .ptr bs 0]])) (l1 : bm < hb.next) (l2 : bn < hb.next) (l3 : bs < hb.next)
  (f1 : ¬ own hb bm) (f2 : ¬ own hb bn) (f3 : ¬ own hb bs)
  (hrd : ∀ s o rem a h, R (o :: rem) s → I s h → Rel own hb h → o.length = n → NatsLt n o → Blt h a 1 (natsV o) → FreeV own h a → RdR (dX c) L [a] h (stR I D own ex h (step o s))) :
  ∀ d p a h s rem, R (ordsL n d p ++ rem) s → p.length + d = n → NatsLt n p → I s h → Rel own hb h → Blt h a 1 (natsV p) → FreeV own h a → ClR (dX c) 168 [a, .ptr bm 0, .ptr bn 0, .ptr bs 0] h (stR I D own ex h (foldS step (ordsL n d p) s)) := by
 intro d
 induction d with
 | zero =>
  intro p a h s rem hr0 hd hlt hi hx b hf
  have hR := hrd s p rem a h hr0 hi hx (by omega) hlt b hf
  clear hr0
  have q1 := (hx.2 bm l1 f1).1.trans g1
  have q2 := (hx.2 bn l2 f2).1.trans g2
  have hlen := b.len
  have hout := b.out
  have e1 : (((natsV p).length : Int) == (n : Int)) = true := by rw [natsV_len]; simp; omega
  unfold RdR at hR
  obtain ⟨r, hyl, hq⟩ := hR
  have hs : foldS step (ordsL n 0 p) s = step p s := by
   simp only [ordsL, foldS]
   split
   ·rename_i q; rw [← q]
   ·rfl
  rw [hs]
  generalize step p s = x at *
  have HL := Lib.hid hlt
  have HR := Lib.hid hrd
  have HX := Lib.hid hx
  have HB := Lib.hid b
  have HF := Lib.hid hf
  have HI := Lib.hid hi
  clear hlt hrd hx b hs g1 g2 g3 hd hf hi f1 f2 f3
  rcases stR_or hq with ⟨s', h', rfl, rfl, k, kr⟩ | ⟨s', h', rfl, rfl, k⟩
  ·have K := Lib.hid k
   have KR := Lib.hid kr
   clear k kr hq
   refine ClR.walk (c := _) hc Tryz.func168 rfl (by kernel_rfl) rfl stR_fail ?_
   simp only [entryEnv, Nat.reduceAdd]
   repeat' (first | (apply WO1.round; exact Z1; exact Z1; (focus (exact hyl)); simp only [pM, pN, rR, rP]) | refine go1 ?_ | refine go2 (fun hh => ?_) (fun hh => ?_) | fail)
   all_goals (simp only [resV_def (X := dX c) Tryz.func168, Tryz.results168]; first | exact J5 | refine J6 ?_)
   exact stR_go rfl K.out KR.out
  ·have K := Lib.hid k
   clear k hq
   refine ClR.walk (c := _) hc Tryz.func168 rfl (by kernel_rfl) rfl stR_fail ?_
   simp only [entryEnv, Nat.reduceAdd]
   repeat' (first | (apply WO1.round; exact Z1; exact Z1; (focus (exact hyl)); simp only [pM, pN, rR, rP]) | refine go1 ?_ | refine go2 (fun hh => ?_) (fun hh => ?_) | fail)
   all_goals (simp only [resV_def (X := dX c) Tryz.func168, Tryz.results168]; first | exact J5 | refine J6 ?_)
   exact stR_end rfl K.out
 | succ d ih =>
  intro p a h s rem hr0 hd hlt hi hx b hf
  have HR0 := Lib.hid hr0
  have HRF := Lib.hid (R_fold hR)
  clear hr0 hR
  have q1 := (hx.2 bm l1 f1).1.trans g1
  have hlen := b.len
  have hout := b.out
  have e1 : (((natsV p).length : Int) == (n : Int)) = false := by rw [natsV_len]; simp; omega
  have HL := Lib.hid hlt
  have HX := Lib.hid hx
  have HB := Lib.hid b
  have HIH := Lib.hid ih
  have HG2 := Lib.hid g2
  have HG3 := Lib.hid g3
  have HG1 := Lib.hid g1
  have HF := Lib.hid hf
  have HI := Lib.hid hi
  have HF3 := Lib.hid f3
  have HOK := Lib.hid ok
  clear hlt hrd hx b g1 g2 g3 ih hf hi f1 f2 f3 ok
  have hs : foldS step (ordsL n (d + 1) p) s = foldS step ((List.range n).flatMap fun i => if p.contains i then [] else ordsL n d (p ++ [i])) s := rfl
  rw [hs]
  clear hs
  refine ClR.walk (c := _) hc Tryz.func168 rfl (by kernel_rfl) rfl stR_fail ?_
  simp only [entryEnv, Nat.reduceAdd]
  repeat' (first | refine goS ?_ | refine go2 (fun hh => ?_) (fun hh => ?_) | fail)
  refine W.loopN n (fun i F => ∃ e hp s', F = Fr.mk 168 false e .nil hp [] none ∧ Rel own h hp ∧ I s' hp ∧ foldS step ((List.range i).flatMap fun i => if p.contains i then [] else ordsL n d (p ++ [i])) s = (s', true) ∧ e.get 0 = some a ∧ e.get 1 = some (.ptr bm 0) ∧ e.get 2 = some (.ptr bn 0) ∧ e.get 3 = some (.ptr bs 0) ∧ e.get 14 = some (.int .i64 ↑n) ∧ e.get 15 = some (.int .i64 ↑i) ∧ i ≤ n) ?_ ?_
  ·refine ⟨_, _, s, rfl, Rel.refl own h, HI.out, rfl, ?_, ?_, ?_, ?_, ?_, ?_, ?_⟩ <;> first | exact Z2 | simp [go_sem, *]
  rintro i F ⟨e, hp, s', rfl, hx0, hi', hno, h0, h1, h2, h3, h14, h15, hi⟩
  have hx1 : Rel own hb hp := HX.out.trans hx0
  have HNO := Lib.hid hno
  have HI' := Lib.hid hi'
  clear hno q1 hi'
  by_cases hin : i < n
  ·have hdl : decide ((i : Int) < (n : Int)) = true := by simpa using hin
   have hw := wrap_succ hin (by unfold maxL; omega)
   have hb0 : Blt hp a 1 (natsV p) := (FreeV.rel hx0 HB.out HF.out).1
   have k116 : ∀ hq : Heap, hq = hp → Cl (dX c) 116 [a, .int .i64 ↑i] hq (.ret (.bool (p.contains i)) hq none) := fun hq e => by subst e; exact K116 hc2 a p i hq hb0 (by unfold maxL; omega)
   have k116 := k116 hp rfl
   cases hpi : p.contains i with
   | true =>
    rw [hpi] at k116
    clear hb0
    have HX0 := Lib.hid hx0
    clear hx0 hx1
    repeat' (first | (apply W.draw (id := 6) (lc := [0, 1, 2, 3, 4, 5, 6, 7, 8, 9, 10, 11, 12, 13]) (hot := [(5, 7), (5, 10)]); kernel_rfl; kernel_rfl; kernel_rfl; exact Z4) | (refine WD.nil ⟨?_, ?_⟩; rotate_left; simp only [tN, bN, eN, true_and]) | (refine WD.cons rfl rfl ?_) | (refine calm_end) | (refine calmGN (b := false) rfl rfl rfl rfl rfl rfl rfl ?_ rfl ?_; (focus exact Z2)) | refine go1 ?_ | (apply U6; exact Z1; exact Z1; (focus (simp only [List.nil_append, List.append_nil]; first | exact k116)); simp only [pM, pN, rR, rP]) | refine go2 (fun hh => ?_) (fun hh => ?_) | fail)
    refine ⟨hin, _, _, s', rfl, HX0.out, HI'.out, ?_, ?_, ?_, ?_, ?_, ?_, ?_, by omega⟩
    ·rw [foldS_more HNO.out, if_pos hpi]; rfl
    all_goals exact Z2
   | false =>
    rw [hpi] at k116
    have q3 := (hx1.2 bs l3 HF3.out).1.trans HG3.out
    have hcl0 := C118 c hc3 a p hp hb0 (by omega)
    unfold ClR at hcl0
    obtain ⟨r1, hcl, hcr⟩ := hcl0
    unfold clR at hcr
    obtain ⟨v1, hp1, rfl, hB1, hX1⟩ := hcr
    have ho1 := hB1.blt.out
    have hX1e : hp.next ≤ hp1.next ∧ ∀ id, id < hp.next → hp1.get id = hp.get id := hX1
    have q4 := (hX1.2 bs (Nat.lt_of_lt_of_le l3 hx1.1)).trans q3
    have hll : p.length + (0 + 1) ≤ most := by unfold most; omega
    have HX0 := Lib.hid hx0
    have HXF := Lib.hid hx1
    have HX1 := Lib.hid hX1
    clear hx0 hx1 hb0
    repeat' (first | (apply W.draw (id := 6) (lc := [0, 1, 2, 3, 4, 5, 6, 7, 8, 9, 10, 11, 12, 13]) (hot := [(5, 7), (5, 10)]); kernel_rfl; kernel_rfl; kernel_rfl; exact Z4) | (apply U6; exact Z1; exact Z1; (focus (exact hcl)); simp only [pM, pN, rR, rP]) | (apply WO1.appendN (t := 39) (u := 39) (e := 3) (e' := 3) (sz := 1) (tl := []) (b := hp.next) (h0 := hp); (focus (exact hB1)); (focus (exact hX1e)); exact Z1; exact rfl; exact Z2; exact Z2; exact Z2; (focus (exact ty_row39)); exact Z1; (focus (intro v hv; simp at hv; subst hv; rfl)); (focus (simp only [natsV_len, List.length_cons, List.length_nil]; exact hll)); (focus (simp)); (intro v2 hp2 hB2 ho2 hX2; simp only [pM, pN])) | (refine WD.nil ⟨?_, ?_⟩; rotate_left; simp only [tN, bN, eN, true_and]) | (refine WD.cons rfl rfl ?_) | refine go1 ?_ | (apply U6; exact Z1; exact Z1; (focus (simp only [List.nil_append, List.append_nil]; first | exact k116)); simp only [pM, pN, rR, rP]) | refine go2 (fun hh => ?_) (fun hh => ?_) | fail)
    have hxe : HExt hp hp2 := ⟨hX2.1, hX2.2⟩
    have hi2 := HOK.out.ext s' hp hp2 HI'.out hxe
    have hr2 : Rel own hp hp2 := HOK.out.rel HI'.out hxe
    have hb2 : Blt hp2 v2 1 (natsV (p ++ [i])) := by simpa [natsV] using hB2.blt
    have hf2 : FreeV own hp2 v2 := fun id off m e ho => by
     rcases hB2 with ⟨e', _⟩ | ⟨id', e', _, h4, _⟩
     ·rw [e'] at e; cases e
     ·rw [e'] at e; cases e
      have := HOK.out.lt s' hp _ HI'.out (hi2.2 _ ho)
      omega
    have hrr : R (ordsL n d (p ++ [i]) ++ (((List.range n).drop (i + 1)).flatMap (fun i => if p.contains i then [] else ordsL n d (p ++ [i])) ++ rem)) s' := by
     have h0 : R ((List.range n).flatMap (fun i => if p.contains i then [] else ordsL n d (p ++ [i])) ++ rem) s := HR0.out
     rw [range_cut _ hin, List.append_assoc] at h0
     have h1 := HRF.out _ _ _ _ h0 HNO.out
     rw [if_neg (by rw [hpi]; simp), List.append_assoc] at h1
     exact h1
    have hrec := HIH.out (p ++ [i]) v2 hp2 s' _ hrr (by simp; omega) (fun k hk => by
     rcases List.mem_append.1 hk with q | q
     ·exact HL.out k q
     ·simp at q; omega) hi2.1 (HXF.out.trans hr2) hb2 hf2
    unfold ClR at hrec
    obtain ⟨r, hrec, hq⟩ := hrec
    have q5 : hp2.get bs = _ := (hX2.2 bs (Nat.lt_of_lt_of_le l3 HXF.out.1)).trans q3
    have HR2 := Lib.hid hr2
    clear hi2 hr2 hb2 hf2 hxe
    rcases stR_or hq with ⟨s3, h3', ex, rfl, k, kr⟩ | ⟨s3, h3', ex, rfl, k⟩
    ·have EX := Lib.hid ex
     have K := Lib.hid k
     have KR := Lib.hid kr
     clear ex k kr hq
     repeat' (first | (refine WD.nil ⟨?_, ?_⟩; rotate_left; simp only [tN, bN, eN, true_and]) | (refine WD.cons rfl rfl ?_) | (refine calm_end) | (refine calmG rfl rfl rfl rfl rfl rfl rfl ?_ ?_ ?_; (focus exact Z2); (focus (first | exact Z2 | exact Z1))) | refine go1 ?_ | (apply U6; exact Z1; exact Z1; (focus (simp only [List.nil_append, List.append_nil]; first | exact hrec)); simp only [pM, pN, rR, rP]) | refine go2 (fun hh => ?_) (fun hh => ?_) | fail)
     refine ⟨hin, _, _, s3, rfl, HX0.out.trans (HR2.out.trans KR.out), K.out, ?_, ?_, ?_, ?_, ?_, ?_, ?_, by omega⟩
     ·rw [foldS_more HNO.out, if_neg (by rw [hpi]; simp)]
      exact EX.out
     all_goals exact Z2
    ·have EX := Lib.hid ex
     have K := Lib.hid k
     clear ex k hq
     repeat' (first | (refine WD.nil ⟨?_, ?_⟩; rotate_left; simp only [tN, bN, eN, true_and]) | (refine WD.cons rfl rfl ?_) | (refine calm_end) | (refine calmG rfl rfl rfl rfl rfl rfl rfl ?_ ?_ ?_; (focus exact Z2); (focus (first | exact Z2 | exact Z1))) | refine go1 ?_ | (apply U6; exact Z1; exact Z1; (focus (simp only [List.nil_append, List.append_nil]; first | exact hrec)); simp only [pM, pN, rR, rP]) | refine go2 (fun hh => ?_) (fun hh => ?_) | fail)
     all_goals (simp only [resV_def (X := dX c) Tryz.func168, Tryz.results168]; first | exact J5 | refine J6 ?_)
     refine stR_end (foldS_take (i := i + 1) hin ?_) ⟨K.out.1, (HX0.out.trans HR2.out).stop K.out.2⟩
     rw [foldS_more HNO.out, if_neg (by rw [hpi]; simp)]
     exact EX.out
  ·have hdl : decide ((i : Int) < (n : Int)) = false := by simpa using hin
   have hin2 : i = n := by omega
   subst hin2
   have HX0 := Lib.hid hx0
   clear hx0 hx1
   repeat' (first | refine goS ?_ | refine go2 (fun hh => ?_) (fun hh => ?_) | fail)
   all_goals (simp only [resV_def (X := dX c) Tryz.func168, Tryz.results168]; first | exact J5 | refine J6 ?_)
   exact stR_go HNO.out HI'.out HX0.out
set_option maxHeartbeats 1000000 in
theorem G167 {σ : Type} (I D : σ → Heap → Prop) (own : Heap → Nat → Prop) (ex : Nat → Prop) (ok : OwnOk I own) (step : List Nat → σ → σ × Bool) (R : List (List Nat) → σ → Prop) (hR : ∀ o rem s s', R (o :: rem) s → step o s = (s', true) → R rem s') (c : FuncId → Option (List AV → Heap → Option (AV × Heap))) (hc : c 167 = none) (hc1 : c 168 = none) (hc2 : c 116 = some (flatFn sp116)) (hc3 : c 118 = none) (n L bm : Nat) (hn : n ≤ 8) (h : Heap) (s : σ)
  (g1 : h.get bm = some (.var [.int .i64 ↑n])) (l1 : bm < h.next) (f1 : ¬ own h bm) (hi : I s h) (hr0 : R (ordsL n n []) s)
  (hrd : ∀ s o rem a h1, R (o :: rem) s → I s h1 → Rel own h h1 → o.length = n → NatsLt n o → Blt h1 a 1 (natsV o) → FreeV own h1 a → RdR (dX c) L [a] h1 (stR I D own ex h1 (step o s))) :
  ClR (dX c) 167 [.yield L, .ptr bm 0] h (stU I D own ex h (foldS step (ordsL n n []) s)) := by
 obtain ⟨pn, pm⟩ := h
 simp only at l1
 have hx : HExt ⟨pn, pm⟩ ⟨pn + 1 + 1, ((pm.set pn (.var [.yield L])).set (pn + 1) (.var [.nilfunc])).set (pn + 1) (.var [.func (.func 168) [] [.ptr bm 0, .ptr pn 0, .ptr (pn + 1) 0]])⟩ := by
  refine ⟨by simp only; omega, fun id hid => ?_⟩
  simp only at hid
  rw [hget_set, if_neg (by omega), hget_set, if_neg (by omega), hget_set, if_neg (by omega)]
  rfl
 have hx' := ok.ext s _ _ hi hx
 have hr' := ok.rel hi hx
 have hlt : ∀ id, pn ≤ id → ¬ own ⟨pn + 1 + 1, ((pm.set pn (.var [.yield L])).set (pn + 1) (.var [.nilfunc])).set (pn + 1) (.var [.func (.func 168) [] [.ptr bm 0, .ptr pn 0, .ptr (pn + 1) 0]])⟩ id := fun id hid ho => by
  have := ok.lt s _ id hi (hx'.2 id ho)
  simp only at this
  omega
 have hrec := G168 I D own ex ok step R hR c hc1 hc2 hc3 n L bm pn (pn + 1) hn ⟨pn + 1 + 1, ((pm.set pn (.var [.yield L])).set (pn + 1) (.var [.nilfunc])).set (pn + 1) (.var [.func (.func 168) [] [.ptr bm 0, .ptr pn 0, .ptr (pn + 1) 0]])⟩
  ((hx.2 bm l1).trans g1) (by rw [hget_set, if_neg (by omega), hget_set, if_neg (by omega), hget_set, if_pos rfl]) (by rw [hget_set, if_pos rfl]) (by simp only; omega) (by simp only; omega) (by simp only; omega)
  (hr'.2 bm l1 f1).2 (hlt _ (Nat.le_refl _)) (hlt _ (Nat.le_succ _))
  (fun s o rem a h1 q i k => hrd s o rem a h1 q i (hr'.trans k)) n [] .nilslice _ s [] (by rw [List.append_nil]; exact hr0) (by simp) (fun k hk => by simp at hk) hx'.1 (Rel.refl _ _) Blt.nil (fun id off n e => by cases e)
 unfold ClR at hrec
 obtain ⟨r, hrec, hq⟩ := hrec
 have HR' := Lib.hid hr'
 clear hx hx' hr' hlt g1 hrd hi f1 ok hr0 hR
 rcases stR_or hq with ⟨s', h', ex, rfl, k, kr⟩ | ⟨s', h', ex, rfl, k⟩
 ·have EX := Lib.hid ex
  have K := Lib.hid k
  have KR := Lib.hid kr
  clear ex k kr hq
  refine ClR.walk (c := _) hc Tryz.func167 rfl (by kernel_rfl) rfl stU_fail ?_
  simp only [entryEnv, Nat.reduceAdd]
  repeat' (first | (apply U6; exact Z1; exact Z1; (focus (exact hrec)); simp only [pM, pN, rR, rP]) | refine go1 ?_ | refine go2 (fun hh => ?_) (fun hh => ?_) | fail)
  all_goals (simp only [resV_def (X := dX c) Tryz.func167, Tryz.results167]; first | exact J5 | refine J6 ?_)
  exact stU_go EX.out K.out (HR'.out.trans KR.out)
 ·have EX := Lib.hid ex
  have K := Lib.hid k
  clear ex k hq
  refine ClR.walk (c := _) hc Tryz.func167 rfl (by kernel_rfl) rfl stU_fail ?_
  simp only [entryEnv, Nat.reduceAdd]
  repeat' (first | (apply U6; exact Z1; exact Z1; (focus (exact hrec)); simp only [pM, pN, rR, rP]) | refine go1 ?_ | refine go2 (fun hh => ?_) (fun hh => ?_) | fail)
  all_goals (simp only [resV_def (X := dX c) Tryz.func167, Tryz.results167]; first | exact J5 | refine J6 ?_)
  exact stU_end EX.out ⟨K.out.1, HR'.out.stop K.out.2⟩
end Go.AM
namespace Go.AM
open Go
variable [Keep]
theorem W.unroll {X : Ctx} {F : Fr} {Q : Out → Prop} {body : Code} (h : W X body F (thenQ (fun F' => W X (.loop body) F' Q) Q)) : W X (.loop body) F Q := by
 obtain ⟨o, ⟨n, hn⟩, hq⟩ := h
 cases o with
 | norm F' =>
  obtain ⟨o2, ⟨n2, hn2⟩, hq2⟩ := hq
  exact ⟨o2, Ev.step ⟨max n n2, fun m hm => by simp [evStep, hn m (by omega), hn2 m (by omega)]⟩, hq2⟩
 | exit i F' => exact ⟨_, Ev.step ⟨n, fun m hm => by simp only [evStep, hn m hm]⟩, hq⟩
 | ret F' => exact ⟨_, Ev.step ⟨n, fun m hm => by simp only [evStep, hn m hm]⟩, hq⟩
 | pan v F' => exact ⟨_, Ev.step ⟨n, fun m hm => by simp only [evStep, hn m hm]⟩, hq⟩
 | fail => exact ⟨_, Ev.step ⟨n, fun m hm => by simp only [evStep, hn m hm]⟩, hq⟩
theorem W.only {X : Ctx} {F : Fr} {Q : Out → Prop} {c : Code} {t : Tmp} {v : AV} (_ : F.e.get t = some v) (h : W X c F Q) : W X c F Q := h
end Go.AM
namespace Go.AM
open Go Go.Proofs
variable [Keep]
attribute [local irreducible] W WO WO1 WD WQ WT thenQ blockQ endR isRet retK Cl ClR
attribute [local irreducible] DefR
structure Bx where
 x : Sp
 y : Sp
 deriving DecidableEq
def nowB (err : Int) (s p : Pt) : Bx := ⟨⟨w64 (w64 (p.x - s.x) - err), w64 (w64 (p.x - s.x) + err)⟩, ⟨w64 (w64 (p.y - s.y) - err), w64 (w64 (p.y - s.y) + err)⟩⟩
def goB : List Bx → Bx → Option Bx
 | [], x => some x
 | n :: r, x => if empS (interS x.x n.x) || empS (interS x.y n.y) then none else goB r ⟨interS x.x n.x, interS x.y n.y⟩
def boxS : List Bx → Option Bx
 | [] => some ⟨⟨0, 0⟩, ⟨0, 0⟩⟩
 | n :: r => goB (n :: r) n
def okOrd (hl : Nat) (os : List Int) : Bool := os.all fun o => decide (0 ≤ o) && decide (o < (hl : Int))
def tvO (t : TypeId) (m : Int) : Bool := decide (m ≤ 65536) && (decide (t = 217) || decide (t = 215))
def tvP (t : TypeId) (m : Int) (p : Pt) : Pt := (turnedV t m p).getD p
theorem tv_some {t : TypeId} {m : Int} (h : tvO t m = true) (p : Pt) : turnedV t m p = some (tvP t m p) := by
 simp only [tvO, Bool.and_eq_true, Bool.or_eq_true, decide_eq_true_eq] at h
 unfold tvP turnedV
 rw [if_pos h.1]
 rcases h.2 with rfl | rfl
 ·rfl
 ·rfl
theorem ia169p_0 (H : Heap) (id off : Nat) : indexAddrV Tryz.prog H 169 (.ptr id off) (.int .i64 0) = some (.ptr id off) := by
 simp only [indexAddrV, Tryz.underlying169, ty_lay48]; rfl
theorem ia169p_1 (H : Heap) (id off : Nat) : indexAddrV Tryz.prog H 169 (.ptr id off) (.int .i64 1) = some (.ptr id (off + 2)) := by
 simp only [indexAddrV, Tryz.underlying169, ty_lay48]; rfl
end Go.AM
namespace Go.AM
open Go Go.Proofs
variable [Keep]
attribute [local irreducible] W WO WO1 WD WQ WT thenQ blockQ endR isRet retK Cl ClR
attribute [local irreducible] roundQ RdR clR
section
variable {σ : Type} {I D : σ → Heap → Prop} {own : Heap → Nat → Prop} (ok : OwnOk I own) {s s4 : σ} {h1 hq h' : Heap} {L1 : Nat} {bl : Blk}
include ok
theorem rnd_in (i : I s h1) (hn : hq.next = h1.next) (hg : ∀ j, j ≠ L1 → hq.get j = h1.get j) (fL : ¬ own h1 L1) : I s hq ∧ ∀ id, own hq id → own h1 id :=
 ok.loc s h1 hq i (Nat.le_of_eq hn.symm) fun id ho => hg id (fun e => fL (e ▸ ho))
theorem back_put (i : I s4 h') (fL : ¬ own h' L1) : I s4 (h'.put L1 bl) ∧ ∀ id, own (h'.put L1 bl) id → own h' id :=
 ok.loc s4 h' _ i (Nat.le_refl _) fun id ho => by
  rw [Heap.get_put, if_neg (by rintro rfl; exact fL ho)]
theorem back_go (i : I s h1) (hn : hq.next = h1.next) (hg : ∀ j, j ≠ L1 → hq.get j = h1.get j) (hL : h1.get L1 = some bl) (fL : ¬ own h1 L1) (lL : L1 < h1.next) (i4 : I s4 h') (kr : Rel own hq h') : I s4 (h'.put L1 bl) ∧ Rel own h1 (h'.put L1 bl) := by
 obtain ⟨_, b2⟩ := rnd_in ok i hn hg fL
 have f' : ¬ own h' L1 := (kr.2 L1 (by rw [hn]; exact lL) (fun ho => fL (b2 _ ho))).2
 obtain ⟨c1, c2⟩ := back_put ok (bl := bl) i4 f'
 refine ⟨c1, ?_, fun id hid ho => ?_⟩
 ·show h1.next ≤ h'.next
  rw [← hn]; exact kr.1
 ·have q := kr.2 id (by rw [hn]; exact hid) (fun k => ho (b2 _ k))
  refine ⟨?_, fun k => q.2 (c2 _ k)⟩
  rw [Heap.get_put]
  split
  ·rename_i e; subst e; exact hL.symm
  ·rename_i e; rw [q.1]; exact hg id (fun e' => e e'.symm)
theorem fin_go {h0 : Heap} (lt : h0.next ≤ L1) (r : Rel own h0 h') (i4 : I s4 h') (fL : ¬ own h' L1) : I s4 (h'.put L1 bl) ∧ Rel own h0 (h'.put L1 bl) := by
 obtain ⟨c1, c2⟩ := back_put ok (bl := bl) i4 fL
 refine ⟨c1, r.1, fun id hid ho => ?_⟩
 have q := r.2 id hid ho
 exact ⟨by rw [Heap.get_put, if_neg (by omega)]; exact q.1, fun k => q.2 (c2 _ k)⟩
end
section
variable {α β σ : Type}
end
theorem of_tv {k : Nat} (h : k < 8) : ∃ t n, ofV (k : Nat) = .iface t (.int .i64 n) ∧ tvO t n = true ∧ ∀ p, tvP t n p = turnP (k : Nat) p := by
 by_cases h4 : (k : Int) < 4
 ·refine ⟨217, k, by simp [ofV, h4], ?_, fun p => ?_⟩
  ·simp [tvO]; omega
  ·unfold tvP turnedV turnP
   rw [if_pos (by omega), if_pos rfl, if_pos h4]; rfl
 ·have hw : w64 ((k : Int) - 4) = k - 4 := wrap_small (by omega) (by omega)
  refine ⟨215, k - 4, by simp [ofV, h4, hw], ?_, fun p => ?_⟩
  ·simp [tvO]; omega
  ·unfold tvP turnedV turnP
   rw [if_pos (by omega), if_neg (by decide), if_pos rfl, if_neg h4, hw]; rfl
def boxOn (err : Int) (ss hs : List Pt) (t : Nat) (o : List Nat) : Option Bx := boxS ((List.range ss.length).map fun i => nowB err (ss.getD i ⟨0, 0⟩) (turnP (t : Nat) (hs.getD (o.getD i 0) ⟨0, 0⟩)))
def boxT (err : Int) (ss hs : List Pt) (t : Nat) : List Bx := (ordsL ss.length ss.length []).filterMap (boxOn err ss hs t)
def boxL (err : Int) (ss hs : List Pt) : List Bx := (List.range 8).flatMap (boxT err ss hs)
end Go.AM
namespace Go.AM
open Go
variable [Keep]
def newRes (h : Heap) (sz : Nat) (el rest : List AV) : AV × Heap :=
 if el.isEmpty then (.tuple (.nilslice :: rest), h) else (.tuple (.row h.next 0 el.length :: rest), h.new (.rw sz el))
def newFn (sz : Nat) (spec : List AV → Option (List AV × List AV)) : List AV → Heap → Option (AV × Heap) := fun args h => match viewDs h args with
 | some l => (match spec l with | some (el, rest) => some (newRes h sz el rest) | none => none)
 | none => none
theorem BR.flat {C D : Cfg} {w w' : World} {L : Loc} {sz : Nat} {el : List AV} (h : BR C w L (.rw sz el)) (hf : ∀ e ∈ el, ∀ x ∈ e.cells, x.flat = true) (e : w'.heap[L.b]? = w.heap[L.b]?) : BR D w' L (.rw sz el) := by
 obtain ⟨c, h1, h2, h3, h4, h5⟩ := h
 refine ⟨c, h1.same e, h2, h3, h4, fun i x hx => ?_⟩
 obtain ⟨k1, k2, k3⟩ := h5 i x hx
 refine ⟨k1, k2, fun j y hy => ?_⟩
 obtain ⟨v, hv, hr⟩ := k3 j y hy
 exact ⟨v, hv, hr.flat (hf x (List.mem_of_getElem? hx) y (List.mem_of_getElem? hy))⟩
variable {C : Cfg} {h : Heap} {w : World}
def isNew (sz : Nat) (el rest : List AV) : COut → Prop
 | .ret (.tuple (v :: r)) h none => r = rest ∧ Blt h v sz el
 | _ => False
theorem newRes_is (h : Heap) (sz : Nat) (el rest : List AV) : ∃ v h', newRes h sz el rest = (.tuple (v :: rest), h') ∧ Blt h' v sz el ∧ h.next ≤ h'.next ∧ ∀ id, id < h.next → h'.get id = h.get id := by
 unfold newRes
 cases el with
 | nil => exact ⟨.nilslice, h, rfl, .inl ⟨rfl, rfl⟩, Nat.le_refl _, fun _ _ => rfl⟩
 | cons a r =>
  refine ⟨.row h.next 0 (a :: r).length, h.new (.rw sz (a :: r)), rfl, .inr ⟨h.next, rfl, by rw [Heap.get_new, if_pos rfl], Nat.lt_succ_self _, by simp⟩, Nat.le_succ _, fun id hid => ?_⟩
  rw [Heap.get_new, if_neg (by omega)]
theorem Cl.new {X : Ctx} {f : FuncId} {sz : Nat} {spec : List AV → Option (List AV × List AV)} {args l el rest : List AV} {h : Heap} (hX : X.intr f = some (newFn sz spec)) (hv : viewDs h args = some l) (hs : spec l = some (el, rest)) :
  ∃ v h', Cl X f args h (.ret (.tuple (v :: rest)) h' none) ∧ Blt h' v sz el ∧ h.next ≤ h'.next ∧ ∀ id, id < h.next → h'.get id = h.get id := by
 obtain ⟨v, h', e, hb, hx⟩ := newRes_is h sz el rest
 exact ⟨v, h', Cl.intr hX (by simp [newFn, hv, hs, e]), hb, hx⟩
end Go.AM
namespace Go.AM
open Go
variable [Keep]
structure Wrap (w : AV → AV) : Prop where
 vr : ∀ {C D : Cfg} {a b : AV} {u : Value}, VR C (w a) u → b.one = true → (∀ v, VR C a v → VR D b v) → VR D (w b) u
variable {C : Cfg} {h : Heap} {w : World}
def isNewG (sz : Nat) (el : List AV) (w : AV → AV) (r : COut) : Prop := ∃ v h, r = .ret (w v) h none ∧ Blt h v sz el
theorem isNewG_fail {sz : Nat} {el : List AV} {w : AV → AV} : ¬ isNewG sz el w .fail := by rintro ⟨_, _, e, _⟩; cases e
theorem isNewG_mk {sz : Nat} {el : List AV} {w : AV → AV} {v : AV} {h : Heap} (b : Blt h v sz el) : isNewG sz el w (.ret (w v) h none) := ⟨v, h, rfl, b⟩
theorem wrap_agg (r1 r2 : List AV) (h1 : ∀ x ∈ r1, x.flat = true) (h2 : ∀ x ∈ r2, x.flat = true) (ho : ∀ x ∈ r1, x.one = true) : Wrap fun v => .tuple (.agg (v :: r1) :: r2) := by
 refine ⟨fun {C D a b u} q hb ha => ?_⟩
 cases q with
 | @tuple _ vs hs hv =>
  refine .tuple hs fun i hi => ?_
  have h0 := hv i hi
  cases i with
  | zero =>
   have h0 : VR C (.agg (a :: r1)) (vs.getD 0 undef) := h0
   show VR D (.agg (b :: r1)) (vs.getD 0 undef)
   generalize vs.getD 0 undef = x at *
   cases h0 with
   | agg k1 k2 k3 =>
    refine .agg k1 (fun j hj => ?_) (fun c hc => ?_)
    ·have k4 := k2 j hj
     cases j with
     | zero => exact ha _ (by simpa using k4)
     | succ j =>
      have hjl : j < r1.length := by simpa using hj
      have e : ∀ y : AV, (y :: r1).getD (j + 1) .junk = r1[j] := fun y => by simp [List.getD, hjl]
      rw [e] at k4 ⊢
      exact k4.flat (h1 _ (List.getElem_mem hjl))
    ·rcases List.mem_cons.1 hc with rfl | hc
     ·exact hb
     ·exact ho _ hc
  | succ i =>
   have hil : i < r2.length := by simpa using hi
   have e : ∀ y : AV, (y :: r2).getD (i + 1) .junk = r2[i] := fun y => by simp [List.getD, hil]
   rw [e] at h0 ⊢
   exact h0.flat (h2 _ (List.getElem_mem hil))
end Go.AM
namespace Go.AM
open Go
variable [Keep]
def newP (spec : List AV → Option (List AV × (AV → AV))) : List AV → Heap → Option (AV × Heap) := fun args h => match viewDs h args with
 | some l => (match spec l with | some (el, w) => some (w (slN el), h) | none => none)
 | none => none
variable {C : Cfg} {h : Heap} {w : World}
theorem newP_intr {X : Ctx} (s : Sound X) {f : FuncId} {sz : Nat} {spec : List AV → Option (List AV × (AV → AV))}
    (hp : ∀ args el rest, spec args = some (el, rest) → (∀ e ∈ el, ∀ x ∈ e.cells, x.flat = true) ∧ Wrap rest)
    (hr : ∀ args el rest, spec args = some (el, rest) → ∃ v h', Cl X f args emptyHp (.ret (rest v) h' none) ∧ Blt h' v sz el) : IntrFn X.P f (newP spec) := by
  intro args h v h' hg C w vs r hv
  unfold newP at hg
  split at hg
  · rename_i l hl
    split at hg
    · rename_i el rest hsp
      obtain ⟨v0, h1, ⟨n, hn⟩, hb⟩ := hr l el rest hsp
      obtain ⟨hf1, hf2⟩ := hp l el rest hsp
      have hcall := hn n (Nat.le_refl _)
      obtain ⟨p1, p2⟩ := viewDs_ok r hv hl
      have hok := s.call n f l emptyHp ⟨fun _ => none, w.cell?⟩ w vs ⟨fun _ _ h => h, fun id blk e => by simp [emptyHp, Heap.get] at e, fun id id' blk blk' L L' e => by simp [emptyHp, Heap.get] at e, fun id blk L x v e => by simp [emptyHp, Heap.get] at e, fun id L e => (by cases e), r.base.on r.sig (fun _ _ _ => rfl)⟩ p2 (by rw [hcall]; intro e; cases e)
      refine ⟨hok.1, fun cs => ?_⟩
      have := hok.2 cs
      rw [hcall] at this
      obtain ⟨C', w', fr, u, q1, q2, q3, q4, q5, q6⟩ := this
      have hsame : ∀ β, β < w.heap.size → w'.heap[β]? = w.heap[β]? := fun β hb => q6.same β hb emptyHp_live id
      have hsg : ∀ x u, C.sig x = some u → w'.cell? x = some u := fun x u e => by
        have h1 := r.sig x u e
        have hb := WR.sig_lt (F := Fr.mk 0 false .nil .nil h [] none) r e
        unfold World.cell? at h1 ⊢
        rw [hsame _ hb]
        exact h1
      have hbase : Base C w' := r.base.on (fun _ _ e => e) (fun x v e => hsame _ (WR.sig_lt (F := Fr.mk 0 false .nil .nil h [] none) r e))
      have hg := Option.some.inj hg
      rcases hb with ⟨rfl, rfl⟩ | ⟨id0, rfl, hrow, hid0, hne⟩
      · simp only [List.isEmpty_nil, if_true, Prod.mk.injEq] at hg
        obtain ⟨rfl, rfl⟩ := hg
        refine ⟨C, w', fr, u, q1, q2, q3, hf2.vr q4 rfl (fun v q => by cases q; exact .nilslice), ⟨hsg, fun id blk e => ?_, r.inj, r.apart, r.fresh, hbase⟩, ?_⟩
        · obtain ⟨L, k1, k2⟩ := r.blk id blk e
          exact ⟨L, k1, k2.same (.refl C) (hsame _ k2.lt)⟩
        · exact { le := .refl C, os := q6.os, tape := q6.tape, output := q6.output, size := q6.size, same := fun β hb _ _ => hsame β hb, live := fun β hb l => .inl l,
                  own := fun _ _ o => o.elim, sig := fun x u hb e => .inl e, next := Nat.le_refl _ }
      · have hem : el.isEmpty = false := by cases el with
          | nil => exact absurd rfl hne
          | cons a b => rfl
        have hsl : slN el = .vslice el := by
          cases el with
          | nil => exact absurd rfl hne
          | cons a b => rfl
        simp only [hsl, Prod.mk.injEq] at hg
        obtain ⟨rfl, rfl⟩ := hg
        obtain ⟨L, m1, m2⟩ := q5.blk id0 _ hrow
        have hnew : w.heap.size ≤ L.b := by
          rcases Nat.lt_or_ge L.b w.heap.size with q | q
          · exfalso
            rcases q6.live L.b q ⟨id0, _, L, hrow, m1, rfl⟩ with k | k
            · exact emptyHp_live k
            · exact k
          · exact q
        have hcells := m2
        obtain ⟨c, hc, hsz, htot, hlen, hel⟩ := hcells
        let D : Cfg := ⟨C.mu, fun x => if x.block = L.b then w'.cell? x else C.sig x⟩
        have hDs : ∀ x v, C.sig x = some v → D.sig x = some v := fun x v e => by
          have hb := WR.sig_lt (F := Fr.mk 0 false .nil .nil h [] none) r e
          show (if x.block = L.b then w'.cell? x else C.sig x) = some v
          rw [if_neg (by omega)]; exact e
        have hD : C.le D := ⟨fun _ _ e => e, hDs⟩
        have lb : ∀ id blk L', h.get id = some blk → C.mu id = some L' → L'.b < w.heap.size := fun id blk L' e1 e2 => by
          obtain ⟨L2, k1, k2⟩ := r.blk id blk e1
          rw [e2] at k1; cases k1
          exact k2.lt
        refine ⟨D, w', fr, u, q1, q2, q3, hf2.vr q4 rfl (fun v q => ?_), ⟨fun x v e => ?_, fun id blk e => ?_, r.inj, fun id blk L1 x v e k ks => ?_, r.fresh, hbase.on hDs (fun _ _ _ => rfl)⟩, ?_⟩
        · cases q with
          | row a h1 h2 h3 h4 =>
            rw [m1] at h1
            cases h1
            rename_i cap
            have hl0 : 0 < el.length := List.length_pos_iff.2 hne
            rcases h3 with h3 | h3
            · omega
            · subst h3
              simp only [Nat.zero_mul, Nat.add_zero]
              have hin : ∀ i j, i < el.length → j < sz → ∃ v, c[L.o + i * sz + j]? = some v ∧ ∀ x, (el.getD i .junk).cells[j]? = some x → VR C' x v := fun i j hi hj => by
                have hei : el[i]? = some (el.getD i .junk) := by simp [List.getD, hi]
                obtain ⟨k1, k2, k3⟩ := hel i _ hei
                have hjl : j < (el.getD i .junk).cells.length := by rw [k1]; exact hj
                obtain ⟨v, k4, k5⟩ := k3 j _ (List.getElem?_eq_getElem hjl)
                refine ⟨v, k4, fun x hx => ?_⟩
                rw [List.getElem?_eq_getElem hjl] at hx
                cases hx
                exact k5
              refine .vslice (sz := sz) (fun i j => (c[L.o + i * sz + j]?).getD undef) h2 (fun e he => ?_) (fun i j hi hj => ?_) (fun i j hi hj => ?_) (fun e he x hx => ?_)
              · obtain ⟨i, hi⟩ := List.mem_iff_getElem?.1 he
                exact (hel i e hi).1
              · obtain ⟨v, k4, _⟩ := hin i j hi hj
                show (if L.b = L.b then w'.cell? ⟨L.b, L.o + i * sz + j, none⟩ else _) = _
                rw [if_pos rfl, hc.cell, k4]
                rfl
              · obtain ⟨v, k4, k5⟩ := hin i j hi hj
                have hei : el[i]? = some (el.getD i .junk) := by simp [List.getD, hi]
                obtain ⟨k1, _, _⟩ := hel i _ hei
                have hjl : j < (el.getD i .junk).cells.length := by rw [k1]; exact hj
                rw [k4]
                have hgd : (el.getD i .junk).cells.getD j .junk = (el.getD i .junk).cells[j] := by rw [List.getD, List.getElem?_eq_getElem hjl]; rfl
                rw [hgd]
                exact (k5 _ (List.getElem?_eq_getElem hjl)).flat (hf1 _ (List.mem_of_getElem? hei) _ (List.getElem_mem hjl))
              · obtain ⟨i, hi⟩ := List.mem_iff_getElem?.1 he
                exact (hel i e hi).2.1 x hx
        · by_cases hb : x.block = L.b
          · have e : (if x.block = L.b then w'.cell? x else C.sig x) = some v := e
            rw [if_pos hb] at e
            exact e
          · have e : (if x.block = L.b then w'.cell? x else C.sig x) = some v := e
            rw [if_neg hb] at e
            exact hsg _ _ e
        · obtain ⟨L', k1, k2⟩ := r.blk id blk e
          exact ⟨L', k1, k2.same hD (hsame _ k2.lt)⟩
        · have hl1 := lb _ _ _ e k
          by_cases hb : x.block = L.b
          · omega
          · have ks : (if x.block = L.b then w'.cell? x else C.sig x) = some v := ks
            rw [if_neg hb] at ks
            exact r.apart _ _ _ _ _ e k ks
        · refine { le := hD, os := q6.os, tape := q6.tape, output := q6.output, size := q6.size, same := fun β hb _ _ => hsame β hb, live := fun β hb l => .inl l, own := fun _ _ o => o.elim, sig := fun x u hb e => .inl ?_, next := Nat.le_refl _ }
          have e : (if x.block = L.b then w'.cell? x else C.sig x) = some u := e
          rw [if_neg (by omega)] at e
          exact e
    · cases hg
  · cases hg
theorem newP_fn {X : Ctx} (s : Sound X) {f : FuncId} {sz : Nat} {spec : List AV → Option (List AV × (AV → AV))}
  (hp : ∀ args el rest, spec args = some (el, rest) → (∀ e ∈ el, ∀ x ∈ e.cells, x.flat = true) ∧ Wrap rest)
  (hr : ∀ args el rest, spec args = some (el, rest) → ClR X f args emptyHp (isNewG sz el rest)) : IntrFn X.P f (newP spec) :=
 newP_intr s hp fun args el rest h => by
  obtain ⟨r, h1, v, h2, rfl, h3⟩ := hr args el rest h
  exact ⟨_, _, h1, h3⟩
theorem Cl.newP {X : Ctx} {f : FuncId} {spec : List AV → Option (List AV × (AV → AV))} {args l el : List AV} {w : AV → AV} {h : Heap} (hX : X.intr f = some (newP spec)) (hv : viewDs h args = some l) (hs : spec l = some (el, w)) :
  Cl X f args h (.ret (w (slN el)) h none) := Cl.intr hX (by simp [AM.newP, hv, hs])
end Go.AM
namespace Go.AM
open Go Go.Proofs
variable [Keep]
attribute [local irreducible] W WO WO1 WD WQ WT thenQ blockQ endR isRet retK Cl ClR
attribute [local irreducible] isNewG
def intoV (n : Int) (s : Sp) : Int := minV (maxV n (maxV s.lo (-20))) (minV s.hi 20)
def intoB (s : Sp) : Bool := decide (maxV s.lo (-20) ≤ minV s.hi 20)
def sp171 : List AV → Option AV
 | [.int .i64 n, .agg [.int .i64 lo, .int .i64 hi]] => some (.tuple [.int .i64 (intoV n ⟨lo, hi⟩), .bool (intoB ⟨lo, hi⟩)])
 | _ => none
set_option maxHeartbeats 1000000 in
theorem F171 : IntrFn Tryz.prog 171 (pureFn sp171) := by
 refine pure_fn (X := dX i0) i0_sound (fun a v h => by unfold sp171 at h; split at h <;> cases h; rfl) ?_
 intro args v h
 unfold sp171 at h
 split at h
 ·rename_i n lo hi
  have h := Option.some.inj h
  subst h
  refine ClR.walk (c := _) rfl Tryz.func171 rfl (by kernel_rfl) rfl isRet_fail ?_
  simp only [entryEnv, Nat.reduceAdd]
  repeat' (first | (apply W.drawQ (id := 1) (l1 := [0, 1, 2, 3, 4, 5, 6, 7]) (l2 := []); kernel_rfl; kernel_rfl; kernel_rfl; exact Z4) | refine go1 ?_ | refine go2 (fun hh => ?_) (fun hh => ?_) | fail)
  all_goals (simp only [resV_def (X := dX i0) Tryz.func171, Tryz.results171]; first | exact J5 | refine J6 ?_)
  all_goals rfl
 ·cases h
theorem K171 {X : Ctx} (hX : X.intr 171 = some (pureFn sp171)) (n : Int) (s : Sp) (h : Heap) : Cl X 171 [.int .i64 n, .agg [.int .i64 s.lo, .int .i64 s.hi]] h (.ret (.tuple [.int .i64 (intoV n s), .bool (intoB s)]) h none) := Cl.intr hX rfl
def backN (t : Nat) : Nat := if t = 1 then 3 else if t = 3 then 1 else t
theorem K170 {X : Ctx} (hX : X.intr 170 = some (pureFn (memo t170))) {t : Nat} (ht : t < 8) (h : Heap) : Cl X 170 [ofV (t : Nat)] h (.ret (ofV (backN t : Nat)) h none) := by
 rcases lt8 ht with rfl | rfl | rfl | rfl | rfl | rfl | rfl | rfl <;> exact Cl.intr hX rfl
theorem back_lt {t : Nat} (ht : t < 8) : backN t < 8 := by unfold backN; split; omega; split <;> omega
def dFrzN : FuncId → Bool
 | 122 | 169 => false
 | f => dFrz f
noncomputable def dXN (intr : FuncId → Option (List AV → Heap → Option (AV × Heap))) : Ctx := { P := Tryz.prog, hts := dHts, rws := dRws, frz := dFrzN, intr }
theorem dXN_sound {intr : FuncId → Option (List AV → Heap → Option (AV × Heap))} (h : ∀ f g, intr f = some g → IntrFn Tryz.prog f g) : Sound (dXN intr) := ⟨d_num, d_mix, h⟩
theorem dXN_P (intr : FuncId → Option (List AV → Heap → Option (AV × Heap))) : (dXN intr).P = Tryz.prog := rfl
theorem dXN_hts (intr : FuncId → Option (List AV → Heap → Option (AV × Heap))) : (dXN intr).hts = dHts := rfl
theorem dXN_rws (intr : FuncId → Option (List AV → Heap → Option (AV × Heap))) : (dXN intr).rws = dRws := rfl
theorem dXN_frz (intr : FuncId → Option (List AV → Heap → Option (AV × Heap))) : (dXN intr).frz = dFrzN := rfl
theorem dFrzN_a : dFrzN 122 = false := rfl
theorem dFrzN_b : dFrzN 169 = false := rfl
attribute [go_sem] dXN_P dXN_hts dXN_rws dXN_frz dFrzN_a dFrzN_b
theorem eq22v (l : List AV) : binV Tryz.prog .eql 22 true (.vslice l) .nilslice = some (.bool false) := by
 simp [binV, eqOp, eqV, isSliceT, whenB, Tryz.underlying22]
def clZ (sz : Nat) (h : Heap) (l : List AV) (r : COut) : Prop := ∃ v h', r = .ret v h' none ∧ BltN h.next h' v sz l ∧ HExt h h'
theorem clZ_fail {sz : Nat} {h : Heap} {l : List AV} : ¬ clZ sz h l .fail := by rintro ⟨_, _, e, _⟩; cases e
theorem clZ_ret {sz : Nat} {h h' : Heap} {v : AV} {l : List AV} (b : BltN h.next h' v sz l) (x : HExt h h') : clZ sz h l (.ret v h' none) := ⟨v, h', rfl, b, x⟩
attribute [local irreducible] clZ
theorem C169 (c : FuncId → Option (List AV → Heap → Option (AV × Heap))) (hc : c 169 = none) (st : List Pt) (h : Heap) (hne0 : st ≠ []) (hm : st.length ≤ 1000) : ClR (dXN c) 169 [.vslice (st.map ptC.enc)] h (clZ 2 h (st.map ptC.enc)) := by
 have hsz : ∀ v ∈ st.map ptC.enc, v.cells.length = 2 := fun v hv => by
  obtain ⟨k, _, rfl⟩ := List.mem_map.1 hv
  rfl
 have hlen : (st.map ptC.enc).length ≤ most := by rw [List.length_map]; unfold most; omega
 have hne : st.map ptC.enc ≠ [] := fun e => hne0 (by simpa using e)
 refine ClR.walk (c := _) hc Tryz.func169 rfl (by kernel_rfl) rfl clZ_fail ?_
 simp only [entryEnv, Nat.reduceAdd]
 have hel : h.elems (.vslice (st.map ptC.enc)) = some (st.map ptC.enc) := rfl
 have hq := eq22v (st.map ptC.enc)
 repeat' (first | (apply WO1.append0 (t := 22) (u := 22) (e := 38) (e' := 38) (sz := 2) (tl := []) (new := st.map ptC.enc) (hx := .inl rfl); exact Z1; exact rfl; exact Z2; exact Z2; exact Z2; (focus (exact ty_row22)); (focus (first | exact Z2 | exact hel)); (focus (exact hsz)); (focus (exact hlen)); (focus (exact hne)); simp only [pM, pN]) | refine go1 ?_ | refine go2 (fun hh => ?_) (fun hh => ?_) | fail)
 all_goals (simp only [resV_def (X := dXN c) Tryz.func169, Tryz.results169]; first | exact J5 | refine J6 ?_)
 refine clZ_ret (.inr ⟨h.next, rfl, ?_, Nat.le_refl _, Nat.lt_succ_self _, hne⟩) (hext_new _ _)
 rw [Heap.get_new, if_pos rfl]
def rsX (off g : Int) (b : Sp) : Sp := ⟨w64 (w64 (g - off) - b.lo), w64 (w64 (g + off) - b.hi)⟩
def wayP (p s : Pt) : Int := w64 (maxV (w64 (p.x - s.x)) (w64 (s.x - p.x)) + maxV (w64 (p.y - s.y)) (w64 (s.y - p.y)))
def rsPt (off : Int) (b : Bx) (g s : Pt) : Pt := ⟨intoV s.x (rsX off g.x b.x), intoV s.y (rsX off g.y b.y)⟩
def rsOk (off : Int) (b : Bx) (g : Pt) : Bool := intoB (rsX off g.x b.x) && intoB (rsX off g.y b.y)
def rsAdd (r : Rs) (v : Nat) (p s : Pt) : Rs := if p = s then ⟨r.st.set v p, r.n, r.w⟩ else ⟨r.st.set v p, w64 (r.n + 1), w64 (r.w + wayP p s)⟩
def rsG (t : Nat) (hs : List Pt) (i : Nat) : Pt := turnP (backN t : Nat) (hs.getD i ⟨0, 0⟩)
def rsGo (off : Int) (t : Nat) (hs st : List Pt) (o : List Nat) (b : Bx) : Nat → Option Rs
 | 0 => some ⟨st, 0, 0⟩
 | i + 1 => match rsGo off t hs st o b i with
  | none => none
  | some r => if rsOk off b (rsG t hs i) then some (rsAdd r (o.getD i 0) (rsPt off b (rsG t hs i) (st.getD (o.getD i 0) ⟨0, 0⟩)) (st.getD (o.getD i 0) ⟨0, 0⟩)) else none
theorem rsGo_none {off : Int} {t : Nat} {hs st : List Pt} {o : List Nat} {b : Bx} {i n : Nat} (hi : i ≤ n) (h : rsGo off t hs st o b i = none) : rsGo off t hs st o b n = none := by
 induction n with
 | zero => rw [show i = 0 by omega] at h; exact h
 | succ n ih =>
  rcases Nat.lt_or_ge n i with q | q
  ·rw [show n + 1 = i by omega]; exact h
  ·show (match rsGo off t hs st o b n with | none => none | some r => _) = none
   rw [ih q]
def tOf (v : AV) : Option Nat := (List.range 8).find? fun k => AV.same (ofV (k : Nat)) v
theorem tOf_ofV {t : Nat} (h : t < 8) : tOf (ofV (t : Nat)) = some t := by
 rcases lt8 h with rfl | rfl | rfl | rfl | rfl | rfl | rfl | rfl <;> rfl
theorem tOf_is {v : AV} {t : Nat} (h : tOf v = some t) : t < 8 ∧ v = ofV (t : Nat) := by
 unfold tOf at h
 have h1 := List.mem_of_find?_eq_some h
 have h2 := List.find?_some h
 exact ⟨List.mem_range.1 h1, (AV.same_eq _ _ h2).symm⟩
def natsOf (l : List Int) : List Nat := l.map Int.toNat
def rsV (r : Option Rs) : List AV × (AV → AV) := match r with
 | some r => (r.st.map ptC.enc, fun v => .tuple [.agg [v, .int .i64 r.n, .int .i64 r.w], .bool true])
 | none => ([], fun v => .tuple [.agg [v, .int .i64 0, .int .i64 0], .bool false])
def sp122 : List AV → Option (List AV × (AV → AV))
 | [.agg [ca, .int .i64 off], sa, tv, oa, .agg [.int .i64 xl, .int .i64 xh, .int .i64 yl, .int .i64 yh]] => match slV ptC ca, slV ptC sa, tOf tv, slV intC oa with
  | some hs, some st, some t, some os => if (decide (1 ≤ st.length) && decide (st.length ≤ 4) && decide (hs.length = st.length) && decide (os.length = st.length) && okOrd st.length os) = true then some (rsV (rsGo off t hs st (natsOf os) ⟨⟨xl, xh⟩, ⟨yl, yh⟩⟩ st.length)) else none
  | _, _, _, _ => none
 | _ => none
theorem p122 : ∀ args el w, sp122 args = some (el, w) → (∀ e ∈ el, ∀ x ∈ e.cells, x.flat = true) ∧ Wrap w := by
 intro args el w h
 unfold sp122 at h
 split at h
 ·split at h
  ·split at h
   ·have h := Option.some.inj h
    have e1 := congrArg Prod.fst h
    have e2 := congrArg Prod.snd h
    simp only at e1 e2
    rw [← e1, ← e2]
    generalize rsGo _ _ _ _ _ _ _ = r
    cases r with
    | none => exact ⟨fun e he => by simp [rsV] at he, wrap_agg [.int .i64 0, .int .i64 0] [.bool false] (by simp [AV.flat]) (by simp [AV.flat]) (by simp [AV.one])⟩
    | some r =>
     refine ⟨fun e he x hx => ?_, wrap_agg [.int .i64 r.n, .int .i64 r.w] [.bool true] (by simp [AV.flat]) (by simp [AV.flat]) (by simp [AV.one])⟩
     obtain ⟨p, _, rfl⟩ := List.mem_map.1 (show e ∈ r.st.map ptC.enc from he)
     simp [ptC, AV.cells] at hx
     rcases hx with rfl | rfl <;> rfl
   ·cases h
  ·cases h
 ·cases h
noncomputable def cIB : FuncId → Option (List AV → Heap → Option (AV × Heap))
 | 95 => some (pureFn sp95)
 | 170 => some (pureFn (memo t170))
 | 171 => some (pureFn sp171)
 | _ => none
theorem cIB_sound (hT : TabK Tryz.prog) : Sound (dXN cIB) := dXN_sound (fun f g h => by
 unfold cIB at h
 split at h
 ·cases h; exact F95
 ·cases h; exact M170 hT
 ·cases h; exact F171
 ·cases h)
theorem neq38b (a b c d : Int) : binV Tryz.prog .neq 38 false (.agg [.int .i64 a, .int .i64 b]) (.agg [.int .i64 c, .int .i64 d]) = some (.bool (!(a == c && b == d))) := by
 have h1 : Tryz.prog.eqGuardType Tryz.prog.depth 38 = false := by kernel_rfl
 have h2 : Tryz.prog.stoodInHeld 38 = false := by kernel_rfl
 simp only [binV, eqOp, eqV, h1, Bool.false_eq_true, if_false, eqDepth, eqT, Tryz.underlying38, h2, eqFields]
 simp [eqFields, readT, ty_lay3, readAt, Tryz.underlying3]
 cases h1 : (a == c) <;> cases h2 : (b == d) <;> simp_all
set_option maxHeartbeats 8000000 in
theorem R122 : ∀ args el w, sp122 args = some (el, w) → ClR (dXN cIB) 122 args emptyHp (isNewG 2 el w) := by
 intro args el w h
 unfold sp122 at h
 split at h
 ·rename_i ca off sa tv oa xl xh yl yh
  split at h
  ·rename_i hs st t os hc hl ht ho
   split at h
   ·rename_i hg
    have h := Option.some.inj h
    have e1 := congrArg Prod.fst h
    have e2 := congrArg Prod.snd h
    simp only at e1 e2
    rw [← e1, ← e2]
    clear h e1 e2
    simp only [Bool.and_eq_true, decide_eq_true_eq] at hg
    obtain ⟨⟨⟨⟨hn1, hn4⟩, hhs⟩, hos⟩, hok⟩ := hg
    obtain ⟨ht8, rfl⟩ := tOf_is ht
    obtain ⟨tt, tm, ho1, htv, htp⟩ := of_tv ht8
    have hb8 := back_lt ht8
    obtain ⟨bt, bm, hb1, hbv, hbp⟩ := of_tv hb8
    have o1 := sl_out hc
    have o2 := sl_out hl
    have o3 := sl_out ho
    have ln1 := sl_len hc
    obtain ⟨n1, t1⟩ := sl_one hc
    obtain ⟨n2, t2⟩ := sl_one hl
    obtain ⟨n3, t3⟩ := sl_one ho
    have k170 := fun h => K170 (X := dXN cIB) rfl ht8 h
    rw [ho1, hb1] at k170
    have hsv : sa = .vslice (st.map ptC.enc) := by
     rcases (slV_is hl).1 with ⟨_, e⟩ | e
     ·have := congrArg List.length e
      rw [List.length_map, List.length_nil] at this
      omega
     ·exact e
    subst hsv
    have hcl0 := C169 cIB rfl st ⟨0, .nil⟩ (fun e => by rw [e] at hn1; simp at hn1) (by omega)
    unfold ClR at hcl0
    obtain ⟨r1, hcl, hcr⟩ := hcl0
    unfold clZ at hcr
    obtain ⟨v1, ⟨pn, pm⟩, rfl, hB1, hX1⟩ := hcr
    have hne : st.map ptC.enc ≠ [] := fun e => by
     have := congrArg List.length e
     rw [List.length_map, List.length_nil] at this
     omega
    obtain ⟨id, rfl, g0, _, hid⟩ := hB1.row hne
    rw [List.length_map] at hcl
    have HC := Lib.hid hc
    have HL := Lib.hid hl
    have HO := Lib.hid ho
    have HOK := Lib.hid hok
    have HHS := Lib.hid hhs
    have HOS := Lib.hid hos
    have HTP := Lib.hid hbp
    have HTV := Lib.hid hbv
    generalize hres : rsGo off t hs st (natsOf os) ⟨⟨xl, xh⟩, ⟨yl, yh⟩⟩ st.length = res
    have HRES := Lib.hid hres
    have HID := Lib.hid hid
    rw [ho1]
    clear hc hl ho hok hbp hbv htp htv hB1 hX1 hres ht ho1 hb1 hhs hos hid
    refine ClR.walk (c := _) rfl Tryz.func122 rfl (by kernel_rfl) rfl isNewG_fail ?_
    simp only [entryEnv, Nat.reduceAdd, emptyHp]
    repeat' (first | (apply U6; exact Z1; exact Z1; (focus (exact hcl)); simp only [pM, pN, rR, rP]) | refine go1 ?_ | refine go2 (fun hh => ?_) (fun hh => ?_) | fail)
    refine W.loopN hs.length (fun k F => ∃ e lm hp r, F = Fr.mk 122 false e lm hp [] none ∧ rsGo off t hs st (natsOf os) ⟨⟨xl, xh⟩, ⟨yl, yh⟩⟩ k = some r ∧ r.st.length = st.length ∧ hp.get id = some (.rw 2 (List.map ptC.enc r.st)) ∧ id < hp.next ∧
     lm.get 5 = some (0, [ca, .int .i64 off]) ∧ lm.get 9 = some (0, [.int .i64 xl, .int .i64 xh, .int .i64 yl, .int .i64 yh]) ∧ lm.get 10 = some (0, [.nilslice, .int .i64 0, .int .i64 0]) ∧ lm.get 12 = some (0, [.row id 0 st.length, .int .i64 r.n, .int .i64 r.w]) ∧
     e.get 1 = some (.vslice (st.map ptC.enc)) ∧ e.get 2 = some (.iface tt (.int .i64 tm)) ∧ e.get 3 = some oa ∧ e.get 5 = some (.lptr 5 0 0) ∧ e.get 9 = some (.lptr 9 0 0) ∧ e.get 10 = some (.lptr 10 0 0) ∧ e.get 12 = some (.lptr 12 0 0) ∧ e.get 26 = some ca ∧ e.get 27 = some (.int .i64 ↑hs.length) ∧ e.get 28 = some (.int .i64 ↑k) ∧ k ≤ hs.length) ?_ ?_
    ·refine ⟨_, _, _, ⟨st, 0, 0⟩, rfl, rfl, rfl, g0, HID.out, ?_, ?_, ?_, ?_, ?_, ?_, ?_, ?_, ?_, ?_, ?_, ?_, ?_, ?_, ?_⟩ <;> first | exact Z2 | simp [go_sem, *]
    clear hcl g0
    rintro k F ⟨e, lm, ⟨qn, qm⟩, r, rfl, hgo, hrl, g0, hqn, l5, l9, l10, l12, h1, h2, h3, h5, h9, h10, h12, h26, h27, h28, hk⟩
    have HGO := Lib.hid hgo
    have HRL := Lib.hid hrl
    clear hgo hrl
    by_cases hlt : k < hs.length
    ·have hd : decide ((k : Int) < (hs.length : Int)) = true := by simpa using hlt
     have hw := wrap_succ (m := hs.length) hlt (by have := HHS.out; unfold maxL; omega)
     obtain ⟨p, hp⟩ := get_some hlt
     have hpi := fun H => pts_idx HC.out hp H
     obtain ⟨ov, hov⟩ := get_some (show k < os.length by have := HHS.out; have := HOS.out; omega)
     have hoi := fun H => ints_idx HO.out hov H
     have hvr : 0 ≤ ov ∧ ov < (st.length : Int) := by
      have := List.all_eq_true.1 HOK.out ov (List.mem_of_getElem? hov)
      simpa using this
     obtain ⟨v, rfl⟩ : ∃ v : Nat, ov = v := ⟨ov.toNat, by omega⟩
     have hvn : v < st.length := by omega
     obtain ⟨s, hs'⟩ := get_some hvn
     have hsi := fun H => pts_idx HL.out hs' H
     have ev : (natsOf os).getD k 0 = v := by simp [natsOf, List.getD, hov]
     have es : st.getD v ⟨0, 0⟩ = s := by simp [List.getD, hs']
     have ep : rsG t hs k = turnP (backN t : Nat) p := by simp [rsG, List.getD, hp]
     have hnx : rsGo off t hs st (natsOf os) ⟨⟨xl, xh⟩, ⟨yl, yh⟩⟩ (k + 1) = if rsOk off ⟨⟨xl, xh⟩, ⟨yl, yh⟩⟩ (turnP (backN t : Nat) p) then some (rsAdd r v (rsPt off ⟨⟨xl, xh⟩, ⟨yl, yh⟩⟩ (turnP (backN t : Nat) p) s) s) else none := by
      show (match rsGo off t hs st (natsOf os) ⟨⟨xl, xh⟩, ⟨yl, yh⟩⟩ k with | none => none | some r => if rsOk off ⟨⟨xl, xh⟩, ⟨yl, yh⟩⟩ (rsG t hs k) then some (rsAdd r ((natsOf os).getD k 0) (rsPt off ⟨⟨xl, xh⟩, ⟨yl, yh⟩⟩ (rsG t hs k) (st.getD ((natsOf os).getD k 0) ⟨0, 0⟩)) (st.getD ((natsOf os).getD k 0) ⟨0, 0⟩)) else none) = _
      rw [HGO.out, ev, es, ep]
     have k95 := fun h => K95 (X := dXN cIB) rfl bt bm p (turnP (backN t : Nat) p) (by rw [tv_some HTV.out, HTP.out]) h
     generalize turnP (backN t : Nat) p = g at *
     have wa : IntKind.i64.wrap (g.x - off) = w64 (g.x - off) := rfl
     have wb : IntKind.i64.wrap (g.x + off) = w64 (g.x + off) := rfl
     have wc : IntKind.i64.wrap (g.y - off) = w64 (g.y - off) := rfl
     have wd : IntKind.i64.wrap (g.y + off) = w64 (g.y + off) := rfl
     have we : IntKind.i64.wrap (w64 (g.x - off) - xl) = w64 (w64 (g.x - off) - xl) := rfl
     have wf : IntKind.i64.wrap (w64 (g.x + off) - xh) = w64 (w64 (g.x + off) - xh) := rfl
     have wg : IntKind.i64.wrap (w64 (g.y - off) - yl) = w64 (w64 (g.y - off) - yl) := rfl
     have wh : IntKind.i64.wrap (w64 (g.y + off) - yh) = w64 (w64 (g.y + off) - yh) := rfl
     have k171x := fun h => K171 (X := dXN cIB) rfl s.x (rsX off g.x ⟨xl, xh⟩) h
     have k171y := fun h => K171 (X := dXN cIB) rfl s.y (rsX off g.y ⟨yl, yh⟩) h
     have hrp : rsPt off ⟨⟨xl, xh⟩, ⟨yl, yh⟩⟩ g s = ⟨intoV s.x (rsX off g.x ⟨xl, xh⟩), intoV s.y (rsX off g.y ⟨yl, yh⟩)⟩ := rfl
     have hro : rsOk off ⟨⟨xl, xh⟩, ⟨yl, yh⟩⟩ g = (intoB (rsX off g.x ⟨xl, xh⟩) && intoB (rsX off g.y ⟨yl, yh⟩)) := rfl
     rw [hrp, hro] at hnx
     generalize intoV s.x (rsX off g.x ⟨xl, xh⟩) = x at *
     generalize intoV s.y (rsX off g.y ⟨yl, yh⟩) = y at *
     generalize intoB (rsX off g.x ⟨xl, xh⟩) = cx at *
     generalize intoB (rsX off g.y ⟨yl, yh⟩) = cy at *
     simp only [rsX] at k171x k171y
     generalize w64 (w64 (g.x - off) - xl) = a1 at *
     generalize w64 (w64 (g.x + off) - xh) = a2 at *
     generalize w64 (w64 (g.y - off) - yl) = a3 at *
     generalize w64 (w64 (g.y + off) - yh) = a4 at *
     have HNX := Lib.hid hnx
     have hri : indexAddrV Tryz.prog ⟨qn, qm⟩ 22 (.row id 0 st.length) (.int .i64 ↑v) = some (.eptr id 2 v 0) := by
      have : idxV (.int .i64 (v : Int)) st.length = some v := by simp [idxV, hvn]
      simp only [indexAddrV, Tryz.underlying22, ty_lay38, this, g0]
      simp
     obtain ⟨q, hq⟩ := get_some (show v < r.st.length by rw [HRL.out]; exact hvn)
     have hat : (r.st.map ptC.enc)[v]? = some (.agg [.int .i64 q.x, .int .i64 q.y]) := by simp [hq, ptC]
     have hne38 := neq38b x y s.x s.y
     have ia0 := ia169_0
     have ia1 := ia169_1
     simp only [hp_get] at g0
     have hcase : (cx = false) ∨ (cx = true ∧ cy = false) ∨ (cx = true ∧ cy = true ∧ (!(x == s.x && y == s.y)) = false) ∨ (cx = true ∧ cy = true ∧ (!(x == s.x && y == s.y)) = true) := by
      cases cx <;> cases cy <;> cases (!(x == s.x && y == s.y)) <;> simp
     have hps : ((⟨x, y⟩ : Pt) = s) ↔ (!(x == s.x && y == s.y)) = false := by
      obtain ⟨sx, sy⟩ := s
      simp
     clear hp hov hvr hs' ev es ep hnx hrp hro hq
     rcases hcase with rfl | ⟨rfl, rfl⟩ | ⟨rfl, rfl, hb⟩ | ⟨rfl, rfl, hb⟩
     ·have e0 : res = none := by
       rw [← HRES.out]
       exact rsGo_none (show k + 1 ≤ st.length by have := HHS.out; omega) (by rw [HNX.out]; rfl)
      rw [e0]
      simp only [rsV]
      clear hlt hk hps e0
      repeat' (first | (apply Z7 (o := ⟨some 16, .alloc 38, 0, _, _, none⟩); exact rfl; exact rfl; exact Z1; simp only [pM, pN]) | (apply W.drawQ (id := 6) (l1 := [4, 0, 1, 2, 3]) (l2 := [5]); kernel_rfl; kernel_rfl; kernel_rfl; exact Z4) | (apply W.drawQ (id := 7) (l1 := [0, 1, 2, 3, 4, 5, 6, 7, 8, 9, 10, 11, 12, 13, 14, 15, 16, 17, 18, 19, 20, 21, 22, 23, 24, 25, 26, 27, 28, 29]) (l2 := []); kernel_rfl; kernel_rfl; kernel_rfl; exact Z4) | (apply W.drawQ (id := 8) (l1 := [0, 1, 2, 3, 4, 5, 6, 7, 8, 9, 10, 11, 12, 13, 14, 15, 16, 17, 18, 19, 20, 21, 22, 23, 24, 25, 26, 27, 28, 29]) (l2 := []); kernel_rfl; kernel_rfl; kernel_rfl; exact Z4) | (apply W.drawQ (id := 12) (l1 := [0, 1, 2, 3, 4, 5]) (l2 := []); kernel_rfl; kernel_rfl; kernel_rfl; exact Z4) | (apply W.drawQ (id := 14) (l1 := [0, 1, 2, 3, 4, 5, 6, 7, 8, 9, 10, 11, 12, 13, 14, 15, 16, 17, 18, 19, 20, 21, 22, 23, 24, 25, 26, 27, 28, 29, 30, 31, 32, 33, 34]) (l2 := [35]); kernel_rfl; kernel_rfl; kernel_rfl; exact Z4) | refine go1 ?_ | (apply U6; exact Z1; exact Z1; (focus (simp only [List.nil_append, List.append_nil]; first | exact k170 _ | exact k95 _ | exact k171x _ | exact k171y _)); simp only [pM, pN, rR, rP]) | refine go2 (fun hh => ?_) (fun hh => ?_) | fail)
      all_goals (simp only [resV_def (X := dXN cIB) Tryz.func122, Tryz.results122]; first | exact J5 | refine J6 ?_)
      exact isNewG_mk (w := fun v => .tuple [.agg [v, .int .i64 0, .int .i64 0], .bool false]) Blt.nil
     ·have e0 : res = none := by
       rw [← HRES.out]
       exact rsGo_none (show k + 1 ≤ st.length by have := HHS.out; omega) (by rw [HNX.out]; rfl)
      rw [e0]
      simp only [rsV]
      clear hlt hk hps e0
      repeat' (first | (apply Z7 (o := ⟨some 16, .alloc 38, 0, _, _, none⟩); exact rfl; exact rfl; exact Z1; simp only [pM, pN]) | (apply W.drawQ (id := 6) (l1 := [4, 0, 1, 2, 3]) (l2 := [5]); kernel_rfl; kernel_rfl; kernel_rfl; exact Z4) | (apply W.drawQ (id := 7) (l1 := [0, 1, 2, 3, 4, 5, 6, 7, 8, 9, 10, 11, 12, 13, 14, 15, 16, 17, 18, 19, 20, 21, 22, 23, 24, 25, 26, 27, 28, 29]) (l2 := []); kernel_rfl; kernel_rfl; kernel_rfl; exact Z4) | (apply W.drawQ (id := 8) (l1 := [0, 1, 2, 3, 4, 5, 6, 7, 8, 9, 10, 11, 12, 13, 14, 15, 16, 17, 18, 19, 20, 21, 22, 23, 24, 25, 26, 27, 28, 29]) (l2 := []); kernel_rfl; kernel_rfl; kernel_rfl; exact Z4) | (apply W.drawQ (id := 12) (l1 := [0, 1, 2, 3, 4, 5]) (l2 := []); kernel_rfl; kernel_rfl; kernel_rfl; exact Z4) | (apply W.drawQ (id := 14) (l1 := [0, 1, 2, 3, 4, 5, 6, 7, 8, 9, 10, 11, 12, 13, 14, 15, 16, 17, 18, 19, 20, 21, 22, 23, 24, 25, 26, 27, 28, 29, 30, 31, 32, 33, 34]) (l2 := [35]); kernel_rfl; kernel_rfl; kernel_rfl; exact Z4) | refine go1 ?_ | (apply U6; exact Z1; exact Z1; (focus (simp only [List.nil_append, List.append_nil]; first | exact k170 _ | exact k95 _ | exact k171x _ | exact k171y _)); simp only [pM, pN, rR, rP]) | refine go2 (fun hh => ?_) (fun hh => ?_) | fail)
      all_goals (simp only [resV_def (X := dXN cIB) Tryz.func122, Tryz.results122]; first | exact J5 | refine J6 ?_)
      exact isNewG_mk (w := fun v => .tuple [.agg [v, .int .i64 0, .int .i64 0], .bool false]) Blt.nil
     ·have hnn : rsGo off t hs st (natsOf os) ⟨⟨xl, xh⟩, ⟨yl, yh⟩⟩ (k + 1) = some ⟨r.st.set v ⟨x, y⟩, r.n, r.w⟩ := by
       rw [HNX.out]
       simp only [Bool.and_self, if_true, rsAdd]
       rw [if_pos (hps.2 hb)]
      have HNN := Lib.hid hnn
      clear hnn hps
      repeat' (first | (apply Z7 (o := ⟨some 16, .alloc 38, 0, _, _, none⟩); exact rfl; exact rfl; exact Z1; simp only [pM, pN]) | (apply W.drawQ (id := 6) (l1 := [4, 0, 1, 2, 3]) (l2 := [5]); kernel_rfl; kernel_rfl; kernel_rfl; exact Z4) | (apply W.drawQ (id := 7) (l1 := [0, 1, 2, 3, 4, 5, 6, 7, 8, 9, 10, 11, 12, 13, 14, 15, 16, 17, 18, 19, 20, 21, 22, 23, 24, 25, 26, 27, 28, 29]) (l2 := []); kernel_rfl; kernel_rfl; kernel_rfl; exact Z4) | (apply W.drawQ (id := 8) (l1 := [0, 1, 2, 3, 4, 5, 6, 7, 8, 9, 10, 11, 12, 13, 14, 15, 16, 17, 18, 19, 20, 21, 22, 23, 24, 25, 26, 27, 28, 29]) (l2 := []); kernel_rfl; kernel_rfl; kernel_rfl; exact Z4) | (apply W.drawQ (id := 12) (l1 := [0, 1, 2, 3, 4, 5]) (l2 := []); kernel_rfl; kernel_rfl; kernel_rfl; exact Z4) | (apply W.drawQ (id := 14) (l1 := [0, 1, 2, 3, 4, 5, 6, 7, 8, 9, 10, 11, 12, 13, 14, 15, 16, 17, 18, 19, 20, 21, 22, 23, 24, 25, 26, 27, 28, 29, 30, 31, 32, 33, 34]) (l2 := [35]); kernel_rfl; kernel_rfl; kernel_rfl; exact Z4) | refine go1 ?_ | (apply U6; exact Z1; exact Z1; (focus (simp only [List.nil_append, List.append_nil]; first | exact k170 _ | exact k95 _ | exact k171x _ | exact k171y _)); simp only [pM, pN, rR, rP]) | refine go2 (fun hh => ?_) (fun hh => ?_) | fail)
      refine ⟨hlt, _, _, _, ⟨r.st.set v ⟨x, y⟩, r.n, r.w⟩, rfl, HNN.out, by simp [HRL.out], ?_, hqn, ?_, ?_, ?_, ?_, ?_, ?_, ?_, ?_, ?_, ?_, ?_, ?_, ?_, ?_, by omega⟩
      ·rw [List.map_set]
       first | (simp only [hp_get, ptC, go_sem, *, Nat.reduceLT, Int.reduceEq, Int.reduceBEq, Int.reduceLE, Int.reduceLT, Nat.reduceAdd, Nat.reduceBEq, Nat.reduceEqDiff, reduceIte, Nat.reduceLeDiff, Nat.reduceMul, Nat.reduceSub, reduceCtorEq]; done) | (simp only [hp_get, ptC, go_sem, *, Nat.reduceLT, Int.reduceEq, Int.reduceBEq, Int.reduceLE, Int.reduceLT, Nat.reduceAdd, Nat.reduceBEq, Nat.reduceEqDiff, reduceIte, Nat.reduceLeDiff, Nat.reduceMul, Nat.reduceSub, reduceCtorEq]; rfl) | (simp [hp_get, ptC, go_sem, *, Nat.reduceLT, Int.reduceEq, Int.reduceBEq, Int.reduceLE, Int.reduceLT, Nat.reduceAdd, Nat.reduceBEq, Nat.reduceEqDiff, reduceIte, Nat.reduceLeDiff, Nat.reduceMul, Nat.reduceSub, reduceCtorEq]; rfl)
      all_goals exact Z2
     ·have hnn : rsGo off t hs st (natsOf os) ⟨⟨xl, xh⟩, ⟨yl, yh⟩⟩ (k + 1) = some ⟨r.st.set v ⟨x, y⟩, w64 (r.n + 1), w64 (r.w + wayP ⟨x, y⟩ s)⟩ := by
       rw [HNX.out]
       simp only [Bool.and_self, if_true, rsAdd]
       rw [if_neg (fun e => by rw [hps.1 e] at hb; cases hb)]
      have wi : IntKind.i64.wrap (r.n + 1) = w64 (r.n + 1) := rfl
      have wj : IntKind.i64.wrap (x - s.x) = w64 (x - s.x) := rfl
      have wk : IntKind.i64.wrap (s.x - x) = w64 (s.x - x) := rfl
      have wl : IntKind.i64.wrap (y - s.y) = w64 (y - s.y) := rfl
      have wm : IntKind.i64.wrap (s.y - y) = w64 (s.y - y) := rfl
      have hwy : wayP ⟨x, y⟩ s = w64 (maxV (w64 (x - s.x)) (w64 (s.x - x)) + maxV (w64 (y - s.y)) (w64 (s.y - y))) := rfl
      rw [hwy] at hnn
      generalize w64 (x - s.x) = d1 at *
      generalize w64 (s.x - x) = d2 at *
      generalize w64 (y - s.y) = d3 at *
      generalize w64 (s.y - y) = d4 at *
      have wn : IntKind.i64.wrap (maxV d1 d2 + maxV d3 d4) = w64 (maxV d1 d2 + maxV d3 d4) := rfl
      generalize w64 (maxV d1 d2 + maxV d3 d4) = wy at *
      have wo : IntKind.i64.wrap (r.w + wy) = w64 (r.w + wy) := rfl
      generalize w64 (r.w + wy) = rw' at *
      generalize w64 (r.n + 1) = rn' at *
      have HNN := Lib.hid hnn
      clear hnn hps hwy
      repeat' (first | (apply Z7 (o := ⟨some 16, .alloc 38, 0, _, _, none⟩); exact rfl; exact rfl; exact Z1; simp only [pM, pN]) | (apply W.drawQ (id := 6) (l1 := [4, 0, 1, 2, 3]) (l2 := [5]); kernel_rfl; kernel_rfl; kernel_rfl; exact Z4) | (apply W.drawQ (id := 7) (l1 := [0, 1, 2, 3, 4, 5, 6, 7, 8, 9, 10, 11, 12, 13, 14, 15, 16, 17, 18, 19, 20, 21, 22, 23, 24, 25, 26, 27, 28, 29]) (l2 := []); kernel_rfl; kernel_rfl; kernel_rfl; exact Z4) | (apply W.drawQ (id := 8) (l1 := [0, 1, 2, 3, 4, 5, 6, 7, 8, 9, 10, 11, 12, 13, 14, 15, 16, 17, 18, 19, 20, 21, 22, 23, 24, 25, 26, 27, 28, 29]) (l2 := []); kernel_rfl; kernel_rfl; kernel_rfl; exact Z4) | (apply W.drawQ (id := 12) (l1 := [0, 1, 2, 3, 4, 5]) (l2 := []); kernel_rfl; kernel_rfl; kernel_rfl; exact Z4) | (apply W.drawQ (id := 14) (l1 := [0, 1, 2, 3, 4, 5, 6, 7, 8, 9, 10, 11, 12, 13, 14, 15, 16, 17, 18, 19, 20, 21, 22, 23, 24, 25, 26, 27, 28, 29, 30, 31, 32, 33, 34]) (l2 := [35]); kernel_rfl; kernel_rfl; kernel_rfl; exact Z4) | refine go1 ?_ | (apply U6; exact Z1; exact Z1; (focus (simp only [List.nil_append, List.append_nil]; first | exact k170 _ | exact k95 _ | exact k171x _ | exact k171y _)); simp only [pM, pN, rR, rP]) | refine go2 (fun hh => ?_) (fun hh => ?_) | fail)
      refine ⟨hlt, _, _, _, ⟨r.st.set v ⟨x, y⟩, rn', rw'⟩, rfl, HNN.out, by simp [HRL.out], ?_, hqn, ?_, ?_, ?_, ?_, ?_, ?_, ?_, ?_, ?_, ?_, ?_, ?_, ?_, ?_, by omega⟩
      ·rw [List.map_set]
       first | (simp only [hp_get, ptC, go_sem, *, Nat.reduceLT, Int.reduceEq, Int.reduceBEq, Int.reduceLE, Int.reduceLT, Nat.reduceAdd, Nat.reduceBEq, Nat.reduceEqDiff, reduceIte, Nat.reduceLeDiff, Nat.reduceMul, Nat.reduceSub, reduceCtorEq]; done) | (simp only [hp_get, ptC, go_sem, *, Nat.reduceLT, Int.reduceEq, Int.reduceBEq, Int.reduceLE, Int.reduceLT, Nat.reduceAdd, Nat.reduceBEq, Nat.reduceEqDiff, reduceIte, Nat.reduceLeDiff, Nat.reduceMul, Nat.reduceSub, reduceCtorEq]; rfl) | (simp [hp_get, ptC, go_sem, *, Nat.reduceLT, Int.reduceEq, Int.reduceBEq, Int.reduceLE, Int.reduceLT, Nat.reduceAdd, Nat.reduceBEq, Nat.reduceEqDiff, reduceIte, Nat.reduceLeDiff, Nat.reduceMul, Nat.reduceSub, reduceCtorEq]; rfl)
      all_goals exact Z2
    ·have hd : decide ((k : Int) < (hs.length : Int)) = false := by simpa using hlt
     have hke : k = st.length := by have := HHS.out; omega
     have hgo := HGO.out
     rw [hke, HRES.out] at hgo
     subst hgo
     simp only [rsV]
     have HB := Lib.hid (show Blt ⟨qn, qm⟩ (.row id 0 st.length) 2 (r.st.map ptC.enc) from .inr ⟨id, by rw [List.length_map, HRL.out], g0, hqn, fun e => by
      have := congrArg List.length e
      rw [List.length_map, HRL.out, List.length_nil] at this
      omega⟩)
     clear hke hlt hk
     repeat' (first | refine goS ?_ | refine go2 (fun hh => ?_) (fun hh => ?_) | fail)
     all_goals (simp only [resV_def (X := dXN cIB) Tryz.func122, Tryz.results122]; first | exact J5 | refine J6 ?_)
     exact isNewG_mk (w := fun v => .tuple [.agg [v, .int .i64 r.n, .int .i64 r.w], .bool true]) HB.out
   ·cases h
  ·cases h
 ·cases h
theorem F122 (hT : TabK Tryz.prog) : IntrFn Tryz.prog 122 (newP sp122) := newP_fn (X := dXN cIB) (cIB_sound hT) p122 R122
end Go.AM
namespace Go.AM
open Go Go.Proofs
variable [Keep]
attribute [local irreducible] W WO WO1 WD WQ WT thenQ blockQ endR isRet retK Cl ClR
def rsE (r : Rs) : AV := .agg [slN (r.st.map ptC.enc), .int .i64 r.n, .int .i64 r.w]
def rsT : Option Rs → AV
 | some r => .tuple [rsE r, .bool true]
 | none => .tuple [.agg [.nilslice, .int .i64 0, .int .i64 0], .bool false]
theorem K122 {X : Ctx} (hX : X.intr 122 = some (newP sp122)) (ca sa oa : AV) (hs st : List Pt) (os : List Int) (off : Int) (b : Bx) {t : Nat} (ht : t < 8) (hc : slV ptC ca = some hs) (hl : slV ptC sa = some st) (h : Heap) (ho : SeeV h intC oa os)
  (hg : 1 ≤ st.length ∧ st.length ≤ 4 ∧ hs.length = st.length ∧ os.length = st.length ∧ okOrd st.length os = true) :
  Cl X 122 [.agg [ca, .int .i64 off], sa, ofV (t : Nat), oa, .agg [.int .i64 b.x.lo, .int .i64 b.x.hi, .int .i64 b.y.lo, .int .i64 b.y.hi]] h (.ret (rsT (rsGo off t hs st (natsOf os) b st.length)) h none) := by
 obtain ⟨oa', v1, s1⟩ := ho
 have hv1 : viewD h (.agg [ca, .int .i64 off]) = some (.agg [ca, .int .i64 off]) := by
  have := view_pur (h := h) (sl_pur hc)
  exact viewD_but this
 have hv2 : viewD h sa = some sa := by
  have := view_pur (h := h) (sl_pur hl)
  rcases (slV_is hl).1 with ⟨rfl | rfl, _⟩ | rfl <;> exact this
 have hv3 : viewD h (ofV (t : Nat)) = some (ofV (t : Nat)) := by
  rcases lt8 ht with rfl | rfl | rfl | rfl | rfl | rfl | rfl | rfl <;> rfl
 have hv4 : viewD h oa = some oa' := by
  cases oa <;> first | exact v1 | (simp [viewV] at v1; cases v1; cases s1) | skip
  all_goals (unfold viewV at v1; simp only at v1; split at v1 <;> first | (cases v1; cases s1) | cases v1)
 have hv5 : viewD h (.agg [.int .i64 b.x.lo, .int .i64 b.x.hi, .int .i64 b.y.lo, .int .i64 b.y.hi]) = some (.agg [.int .i64 b.x.lo, .int .i64 b.x.hi, .int .i64 b.y.lo, .int .i64 b.y.hi]) := rfl
 have e : (decide (1 ≤ st.length) && decide (st.length ≤ 4) && decide (hs.length = st.length) && decide (os.length = st.length) && okOrd st.length os) = true := by
  simp only [Bool.and_eq_true, decide_eq_true_eq]
  exact ⟨⟨⟨⟨hg.1, hg.2.1⟩, hg.2.2.1⟩, hg.2.2.2.1⟩, hg.2.2.2.2⟩
 have hs' : sp122 [.agg [ca, .int .i64 off], sa, ofV (t : Nat), oa', .agg [.int .i64 b.x.lo, .int .i64 b.x.hi, .int .i64 b.y.lo, .int .i64 b.y.hi]] = some (rsV (rsGo off t hs st (natsOf os) b st.length)) := by
  simp only [sp122, hc, hl, tOf_ofV ht, s1]
  rw [if_pos e]
 have hv : viewDs h [.agg [ca, .int .i64 off], sa, ofV (t : Nat), oa, .agg [.int .i64 b.x.lo, .int .i64 b.x.hi, .int .i64 b.y.lo, .int .i64 b.y.hi]] = some [.agg [ca, .int .i64 off], sa, ofV (t : Nat), oa', .agg [.int .i64 b.x.lo, .int .i64 b.x.hi, .int .i64 b.y.lo, .int .i64 b.y.hi]] := by
  simp only [viewDs, hv1, hv2, hv3, hv4, hv5]
 have key := Cl.newP (X := X) (f := 122) (h := h) (el := (rsV (rsGo off t hs st (natsOf os) b st.length)).1) (w := (rsV (rsGo off t hs st (natsOf os) b st.length)).2) hX hv hs'
 generalize rsGo off t hs st (natsOf os) b st.length = r at *
 cases r with
 | none => exact key
 | some r => exact key
def rs0 : Rs := ⟨[], 0, 0⟩
def betR (a b : Rs) : Bool := decide (cmpR a b < 0)
def bestTo : List Rs → Rs
 | [] => rs0
 | r :: l => l.foldl (fun out x => if betR x out then x else out) r
theorem best_take {l : List Rs} {k : Nat} {x : Rs} (h : l[k]? = some x) : bestTo (l.take (k + 1)) = if k = 0 then x else if betR x (bestTo (l.take k)) then x else bestTo (l.take k) := by
 cases l with
 | nil => simp at h
 | cons r l =>
  cases k with
  | zero => simp at h; subst h; rfl
  | succ k =>
   simp only [List.getElem?_cons_succ] at h
   simp only [List.take_succ_cons, bestTo, Nat.add_eq_zero_iff, Nat.succ_ne_self, and_false, if_false]
   rw [take_next h, List.foldl_append]
   rfl
theorem rs_row {H : Heap} {u : AV} {l : List Rs} {j : Nat} {r : Rs} (b : Blt H u 3 (l.map rsE)) (h : l[j]? = some r) : ∃ id, indexAddrV Tryz.prog H 182 u (.int .i64 ↑j) = some (.eptr id 3 j 0) ∧ H.get id = some (.rw 3 (l.map rsE)) ∧ (l.map rsE)[j]? = some (.agg [slN (r.st.map ptC.enc), .int .i64 r.n, .int .i64 r.w]) := by
 have hj : j < (l.map rsE).length := by
  rw [List.length_map]
  rcases Nat.lt_or_ge j l.length with q | q
  ·exact q
  ·rw [List.getElem?_eq_none q] at h; cases h
 obtain ⟨id, e1, e2⟩ := b.idx (P := Tryz.prog) (t := 182) (e := 186) (ag := true) Tryz.underlying182 ty_lay186 hj
 exact ⟨id, e1, e2, by simp [h, rsE]⟩
set_option maxHeartbeats 4000000 in
theorem C123 (c : FuncId → Option (List AV → Heap → Option (AV × Heap))) (hc : c 123 = none) (hc2 : c 124 = some (pureFn sp124)) (u : AV) (l : List Rs) (h : Heap) (hb : Blt h u 3 (l.map rsE)) (hl : l.length ≤ maxL) (hst : ∀ r ∈ l, r.st.length ≤ maxL) :
  Cl (dX c) 123 [u, .func (.func 124) [] []] h (.ret (.tuple [rsE (bestTo l), .bool (decide ((l.length : Int) > 0))]) h none) := by
 refine ClR.cl ?_
 obtain ⟨hn, hm⟩ := h
 have ou := hb.out
 have tu := hb.tup
 have lu := hb.len
 have HB := Lib.hid hb
 have HS := Lib.hid hst
 rw [List.length_map] at lu
 generalize hres : bestTo l = res
 have HRES := Lib.hid hres
 clear hb hst hres
 refine ClR.walk (c := _) hc Tryz.func123 rfl (by kernel_rfl) rfl (fun e => by cases e) ?_
 simp only [entryEnv, Nat.reduceAdd]
 repeat' (first | refine goS ?_ | refine go2 (fun hh => ?_) (fun hh => ?_) | fail)
 refine W.loopN l.length (fun k F => ∃ e lm out, F = Fr.mk 123 false e lm ⟨hn, hm⟩ [] none ∧ out = bestTo (l.take k) ∧ lm.get 4 = some (0, [.nilslice, .int .i64 0, .int .i64 0]) ∧ lm.get 6 = some (0, [slN (out.st.map ptC.enc), .int .i64 out.n, .int .i64 out.w]) ∧ e.get 0 = some u ∧ e.get 1 = some (.func (.func 124) [] []) ∧ e.get 4 = some (.lptr 4 0 0) ∧ e.get 6 = some (.lptr 6 0 0) ∧ e.get 9 = some u ∧ e.get 10 = some (.int .i64 ↑l.length) ∧ e.get 11 = some (.int .i64 ↑k) ∧ k ≤ l.length) ?_ ?_
 ·refine ⟨_, _, rs0, rfl, rfl, ?_, ?_, ?_, ?_, ?_, ?_, ?_, ?_, ?_, ?_⟩ <;> first | (simp only [rs0, slN, List.map_nil, go_sem, *, Nat.reduceLT, Int.reduceEq, Int.reduceBEq, Int.reduceLE, Int.reduceLT, Nat.reduceAdd, Nat.reduceBEq, Nat.reduceEqDiff, reduceIte, Nat.reduceLeDiff, Nat.reduceMul, Nat.reduceSub, reduceCtorEq]; done) | simp [rs0, slN, go_sem, *, Nat.reduceLT, Int.reduceEq, Int.reduceBEq, Int.reduceLE, Int.reduceLT, Nat.reduceAdd, Nat.reduceBEq, Nat.reduceEqDiff, reduceIte, Nat.reduceLeDiff, Nat.reduceMul, Nat.reduceSub, reduceCtorEq]
 rintro k F ⟨e, lm, out, rfl, hout, l4, l6, h0, h1, h4, h6, h9, h10, h11, hk⟩
 have HOUT := Lib.hid hout
 clear hout
 have so := (slN_is (out.st.map ptC.enc)).out
 have sone := (slN_is (out.st.map ptC.enc)).tup
 by_cases hlt : k < l.length
 ·have hd : decide ((k : Int) < (l.length : Int)) = true := by simpa using hlt
  have hw := wrap_succ hlt hl
  obtain ⟨r, hr⟩ := get_some hlt
  obtain ⟨id, hidx, hgr, hat⟩ := rs_row HB.out hr
  have hrs := HS.out r (List.mem_of_getElem? hr)
  have hos : out.st.length ≤ maxL := by
   have : out = rs0 ∨ out ∈ l := by
    rw [HOUT.out]
    have key : ∀ (m : List Rs), bestTo m = rs0 ∨ bestTo m ∈ m := by
     intro m
     cases m with
     | nil => exact .inl rfl
     | cons a m =>
      right
      have : ∀ (m : List Rs) (a : Rs), m.foldl (fun out x => if betR x out then x else out) a ∈ a :: m := by
       intro m
       induction m with
       | nil => intro a; simp
       | cons b m ih =>
        intro a
        rw [List.foldl_cons]
        split
        ·have := ih b; simp only [List.mem_cons] at this ⊢; exact .inr this
        ·have := ih a; simp only [List.mem_cons] at this ⊢; exact this.imp (fun q => q) .inr
      exact this m a
    rcases key (l.take k) with q | q
    ·exact .inl q
    ·exact .inr (List.mem_of_mem_take q)
   rcases this with q | q
   ·rw [q]; simp [rs0]
   ·exact HS.out out q
  have hcl := K124 (X := dX c) hc2 (slN (r.st.map ptC.enc)) (slN (out.st.map ptC.enc)) r.st out.st r.n r.w out.n out.w (slV_slN hrs) (slV_slN hos) ⟨hn, hm⟩
  have hnx := best_take hr
  rw [← HOUT.out] at hnx
  have hbe : betR r out = decide (cmpR ⟨r.st, r.n, r.w⟩ ⟨out.st, out.n, out.w⟩ < 0) := rfl
  rw [← hbe] at hcl
  have HNX := Lib.hid hnx
  have ro := (slN_is (r.st.map ptC.enc)).out
  have rone := (slN_is (r.st.map ptC.enc)).tup
  simp only [hp_get] at hgr
  clear hr hnx hrs hos hbe
  generalize betR r out = bt at *
  have hcase : (((k : Int) == 0) = true ∧ k = 0) ∨ (((k : Int) == 0) = false ∧ k ≠ 0 ∧ bt = true) ∨ (((k : Int) == 0) = false ∧ k ≠ 0 ∧ bt = false) := by
   by_cases q : k = 0
   ·exact .inl ⟨by simp [q], q⟩
   ·refine .inr ?_
    cases bt
    ·exact .inr ⟨by rw [beq_eq_false_iff_ne]; omega, q, rfl⟩
    ·exact .inl ⟨by rw [beq_eq_false_iff_ne]; omega, q, rfl⟩
  rcases hcase with ⟨q1, q2⟩ | ⟨q1, q2, rfl⟩ | ⟨q1, q2, rfl⟩
  ·have HQ := Lib.hid q2
   clear q2
   repeat' (first | (apply U6; exact Z1; exact Z1; (focus (simp only [List.nil_append, List.append_nil]; exact hcl)); simp only [pM, pN, rR, rP]) | refine go1 ?_ | refine go2 (fun hh => ?_) (fun hh => ?_) | fail)
   refine ⟨hlt, _, _, r, rfl, ?_, ?_, ?_, ?_, ?_, ?_, ?_, ?_, ?_, ?_, by omega⟩
   ·rw [HNX.out, if_pos HQ.out]
   all_goals exact Z2
  ·have HQ := Lib.hid q2
   clear q2
   repeat' (first | (apply U6; exact Z1; exact Z1; (focus (simp only [List.nil_append, List.append_nil]; exact hcl)); simp only [pM, pN, rR, rP]) | refine go1 ?_ | refine go2 (fun hh => ?_) (fun hh => ?_) | fail)
   refine ⟨hlt, _, _, r, rfl, ?_, ?_, ?_, ?_, ?_, ?_, ?_, ?_, ?_, ?_, by omega⟩
   ·rw [HNX.out, if_neg HQ.out, if_pos rfl]
   all_goals exact Z2
  ·have HQ := Lib.hid q2
   clear q2
   repeat' (first | (apply U6; exact Z1; exact Z1; (focus (simp only [List.nil_append, List.append_nil]; exact hcl)); simp only [pM, pN, rR, rP]) | refine go1 ?_ | refine go2 (fun hh => ?_) (fun hh => ?_) | fail)
   refine ⟨hlt, _, _, out, rfl, ?_, ?_, ?_, ?_, ?_, ?_, ?_, ?_, ?_, ?_, by omega⟩
   ·rw [HNX.out, if_neg HQ.out, if_neg (by simp)]
   all_goals exact Z2
 ·have hd : decide ((k : Int) < (l.length : Int)) = false := by simpa using hlt
  have hr := HOUT.out
  rw [show k = l.length by omega, List.take_length, HRES.out] at hr
  subst hr
  have hfz := fun H => (slN_is (out.st.map ptC.enc)).frz1 H
  clear hlt hk
  repeat' (first | refine goS ?_ | refine go2 (fun hh => ?_) (fun hh => ?_) | fail)
  all_goals (simp only [resV_def (X := dX c) Tryz.func123, Tryz.results123]; first | exact J5 | refine J6 ?_)
  all_goals simp [isR, rsE, frzRes, dX_frz, dFrz, freeze, frz2, frzCells, hfz, frz1]
end Go.AM
namespace Go.AM
open Go
variable [Keep]
theorem WO1.gund {X : Ctx} {ops : Array Oper} {K P : AV → Fr → Prop} {F : Fr} {d : Option Tmp} {op : Op} {T : TypeId} {p : String} {af : Array Edge} {j : Nat} {want : Bool} {o : Oper} {t : Tmp} (ho : ops[j]? = some o) (ht : o.dst = some t) (hb : F.e.get t = some undefA) (h : K undefA (F.put d undefA)) : WO1 X ops ⟨d, op, T, p, af, some (j, want)⟩ F K P :=
 ⟨.val undefA (F.put d undefA), ⟨0, fun m _ => by simp [stepOp, guardOk, wantedA, yieldedA, ho, ht, hb, undefA]⟩, h⟩
end Go.AM
namespace Go.AM
open Go Go.Proofs
variable [Keep]
attribute [local irreducible] W WO WO1 WD WQ WT thenQ blockQ endR isRet retK Cl ClR
def clampV (n : Int) (s : Sp) : Int := maxV s.lo (minV s.hi n)
def manyTo (a b : List Pt) : Nat → Int × Int
 | 0 => (0, 0)
 | i + 1 => ((if a.getD i ⟨0, 0⟩ = b.getD i ⟨0, 0⟩ then (manyTo a b i).1 else w64 ((manyTo a b i).1 + 1)),
   w64 (w64 ((manyTo a b i).2 + maxV (w64 ((a.getD i ⟨0, 0⟩).x - (b.getD i ⟨0, 0⟩).x)) (w64 ((b.getD i ⟨0, 0⟩).x - (a.getD i ⟨0, 0⟩).x))) + maxV (w64 ((a.getD i ⟨0, 0⟩).y - (b.getD i ⟨0, 0⟩).y)) (w64 ((b.getD i ⟨0, 0⟩).y - (a.getD i ⟨0, 0⟩).y))))
def manyP (a b : List Pt) : Int × Int := manyTo a b a.length
theorem many_next {a b : List Pt} {i : Nat} {p s : Pt} (h1 : a[i]? = some p) (h2 : b[i]? = some s) : manyTo a b (i + 1) = ((if (!(p.x == s.x && p.y == s.y)) = true then w64 ((manyTo a b i).1 + 1) else (manyTo a b i).1),
   w64 (w64 ((manyTo a b i).2 + maxV (w64 (p.x - s.x)) (w64 (s.x - p.x))) + maxV (w64 (p.y - s.y)) (w64 (s.y - p.y)))) := by
 have e1 : a.getD i ⟨0, 0⟩ = p := by simp [List.getD, h1]
 have e2 : b.getD i ⟨0, 0⟩ = s := by simp [List.getD, h2]
 simp only [manyTo, e1, e2]
 obtain ⟨px, py⟩ := p
 obtain ⟨sx, sy⟩ := s
 by_cases hx : px = sx <;> by_cases hy : py = sy <;> simp [hx, hy]
def sp59 : List AV → Option AV
 | [la, lb] => match slV ptC la, slV ptC lb with
  | some a, some b => if a.length ≤ b.length then some (.tuple [.int .i64 (manyP a b).1, .int .i64 (manyP a b).2]) else none
  | _, _ => none
 | _ => none
theorem p59 : ∀ args v, sp59 args = some v → v.pur = true := by
 intro args v h
 unfold sp59 at h
 split at h
 ·split at h
  ·split at h
   ·cases h; rfl
   ·cases h
  ·cases h
 ·cases h
set_option maxHeartbeats 4000000 in
theorem F59 : IntrFn Tryz.prog 59 (pureFn sp59) := by
 refine pure_fn (X := dX i0) i0_sound p59 ?_
 intro args v h
 unfold sp59 at h
 split at h
 ·rename_i la lb
  split at h
  ·rename_i a b ha hb
   split at h
   ·rename_i hle
    have h := Option.some.inj h
    subst h
    have o1 := sl_out ha
    have o2 := sl_out hb
    have ln1 := sl_len ha
    have hmax := sl_max ha
    have HA := Lib.hid ha
    have HB := Lib.hid hb
    have HLE := Lib.hid hle
    generalize hres : manyP a b = res
    have HRES := Lib.hid hres
    clear ha hb hle hres
    refine ClR.walk (c := _) rfl Tryz.func59 rfl (by kernel_rfl) rfl isRet_fail ?_
    simp only [entryEnv, Nat.reduceAdd, emptyHp]
    repeat' (first | refine goS ?_ | refine go2 (fun hh => ?_) (fun hh => ?_) | fail)
    refine W.loopN a.length (fun k F => ∃ e n w, F = Fr.mk 59 false e .nil ⟨0, .nil⟩ [] none ∧ manyTo a b k = (n, w) ∧ e.get 0 = some la ∧ e.get 1 = some lb ∧ e.get 6 = some (.int .i64 n) ∧ e.get 7 = some (.int .i64 w) ∧ e.get 8 = some (.int .i64 ↑k) ∧ k ≤ a.length) ?_ ?_
    ·refine ⟨_, 0, 0, rfl, rfl, ?_, ?_, ?_, ?_, ?_, ?_⟩ <;> first | exact Z2 | simp [go_sem, *]
    rintro k F ⟨e, n, w, rfl, hm, h0, h1, h6, h7, h8, hk⟩
    have HM := Lib.hid hm
    clear hm
    by_cases hlt : k < a.length
    ·have hd : decide ((k : Int) < (a.length : Int)) = true := by simpa using hlt
     have hw := wrap_succ hlt hmax
     obtain ⟨p, hp⟩ := get_some hlt
     obtain ⟨s, hs⟩ := get_some (show k < b.length from Nat.lt_of_lt_of_le hlt HLE.out)
     have hpi := fun H => pts_idx HA.out hp H
     have hsi := fun H => pts_idx HB.out hs H
     have hnx := many_next hp hs
     rw [HM.out] at hnx
     simp only at hnx
     have hne38 := neq38b p.x p.y s.x s.y
     have wi : IntKind.i64.wrap (n + 1) = w64 (n + 1) := rfl
     have wj : IntKind.i64.wrap (p.x - s.x) = w64 (p.x - s.x) := rfl
     have wk : IntKind.i64.wrap (s.x - p.x) = w64 (s.x - p.x) := rfl
     have wl : IntKind.i64.wrap (p.y - s.y) = w64 (p.y - s.y) := rfl
     have wm : IntKind.i64.wrap (s.y - p.y) = w64 (s.y - p.y) := rfl
     generalize w64 (p.x - s.x) = d1 at *
     generalize w64 (s.x - p.x) = d2 at *
     generalize w64 (p.y - s.y) = d3 at *
     generalize w64 (s.y - p.y) = d4 at *
     have wn : IntKind.i64.wrap (w + maxV d1 d2) = w64 (w + maxV d1 d2) := rfl
     generalize w64 (w + maxV d1 d2) = w1 at *
     have wo : IntKind.i64.wrap (w1 + maxV d3 d4) = w64 (w1 + maxV d3 d4) := rfl
     generalize w64 (w1 + maxV d3 d4) = w2 at *
     generalize w64 (n + 1) = n1 at *
     clear hp hs
     cases hb : (!(p.x == s.x && p.y == s.y)) with
     | true =>
      have hnn : manyTo a b (k + 1) = (n1, w2) := by rw [hnx, if_pos hb]
      have HNN := Lib.hid hnn
      clear hnx hnn
      repeat' (first | (apply W.drawQ (id := 5) (l1 := [0, 1, 2, 3, 4, 5, 6, 7, 8]) (l2 := []); kernel_rfl; kernel_rfl; kernel_rfl; exact Z4) | (apply W.drawQ (id := 7) (l1 := [0, 1, 2, 3, 4, 5, 6, 7, 8, 9, 10, 11, 12, 13, 14, 15, 16, 17, 18, 19, 20, 21, 22, 23, 24, 25, 26, 27, 28, 29, 30, 31, 32, 33, 34, 35, 36, 37, 38, 39, 40, 41, 42, 43, 44, 45, 46, 47, 48, 49]) (l2 := []); kernel_rfl; kernel_rfl; kernel_rfl; exact Z4) | refine go1 ?_ | refine go2 (fun hh => ?_) (fun hh => ?_) | fail)
      refine ⟨hlt, _, n1, w2, rfl, HNN.out, ?_, ?_, ?_, ?_, ?_, by omega⟩
      all_goals exact Z2
     | false =>
      have hnn : manyTo a b (k + 1) = (n, w2) := by rw [hnx, if_neg (by rw [hb]; simp)]
      have HNN := Lib.hid hnn
      clear hnx hnn
      repeat' (first | (apply W.drawQ (id := 5) (l1 := [0, 1, 2, 3, 4, 5, 6, 7, 8]) (l2 := []); kernel_rfl; kernel_rfl; kernel_rfl; exact Z4) | (apply W.drawQ (id := 7) (l1 := [0, 1, 2, 3, 4, 5, 6, 7, 8, 9, 10, 11, 12, 13, 14, 15, 16, 17, 18, 19, 20, 21, 22, 23, 24, 25, 26, 27, 28, 29, 30, 31, 32, 33, 34, 35, 36, 37, 38, 39, 40, 41, 42, 43, 44, 45, 46, 47, 48, 49]) (l2 := []); kernel_rfl; kernel_rfl; kernel_rfl; exact Z4) | refine go1 ?_ | refine go2 (fun hh => ?_) (fun hh => ?_) | fail)
      refine ⟨hlt, _, n, w2, rfl, HNN.out, ?_, ?_, ?_, ?_, ?_, by omega⟩
      all_goals exact Z2
    ·have hd : decide ((k : Int) < (a.length : Int)) = false := by simpa using hlt
     have hr := HRES.out
     unfold manyP at hr
     rw [show a.length = k by omega, HM.out] at hr
     subst hr
     clear hlt hk
     repeat' (first | refine goS ?_ | refine go2 (fun hh => ?_) (fun hh => ?_) | fail)
     all_goals (simp only [resV_def (X := dX i0) Tryz.func59, Tryz.results59]; first | exact J5 | refine J6 ?_)
   ·cases h
  ·cases h
 ·cases h
theorem K59 {X : Ctx} (hX : X.intr 59 = some (pureFn sp59)) (la lb : AV) (a b : List Pt) (ha : slV ptC la = some a) (hb : slV ptC lb = some b) (hle : a.length ≤ b.length) (h : Heap) : Cl X 59 [la, lb] h (.ret (.tuple [.int .i64 (manyP a b).1, .int .i64 (manyP a b).2]) h none) :=
 Cl.intr hX (by simp [pureFn, AV.pur, AV.purL, sl_pur ha, sl_pur hb, sp59, ha, hb, hle])
def betB (a b o : List Pt) : Bool := decide ((manyP a o).1 < (manyP b o).1) || ((manyP a o).1 == (manyP b o).1) && (decide ((manyP a o).2 < (manyP b o).2) || ((manyP a o).2 == (manyP b o).2) && befB (flatL a) (flatL b))
def sp61 : List AV → Option AV
 | [la, lb, lo] => match slV ptC la, slV ptC lb, slV ptC lo with
  | some a, some b, some o => if a.length ≤ o.length ∧ b.length ≤ o.length ∧ o.length ≤ 1000 then some (.bool (betB a b o)) else none
  | _, _, _ => none
 | _ => none
theorem p61 : ∀ args v, sp61 args = some v → v.pur = true := by
 intro args v h
 unfold sp61 at h
 split at h
 ·split at h
  ·split at h
   ·cases h; rfl
   ·cases h
  ·cases h
 ·cases h
noncomputable def cIE : FuncId → Option (List AV → Heap → Option (AV × Heap))
 | 37 => some (pureFn sp37)
 | 59 => some (pureFn sp59)
 | 98 => some (pureFn sp98)
 | _ => none
theorem cIE_sound : Sound (dX cIE) := dX_sound (fun f g h => by
 unfold cIE at h
 split at h
 ·cases h; exact F37
 ·cases h; exact F59
 ·cases h; exact F98
 ·cases h)
set_option maxHeartbeats 4000000 in
theorem F61 : IntrFn Tryz.prog 61 (pureFn sp61) := by
 refine pure_fn (X := dX cIE) cIE_sound p61 ?_
 intro args v h
 unfold sp61 at h
 split at h
 ·rename_i la lb lo
  split at h
  ·rename_i a b o ha hb ho
   split at h
   ·rename_i hle
    have h := Option.some.inj h
    subst h
    have o1 := sl_out ha
    have o2 := sl_out hb
    have o3 := sl_out ho
    have k59a := fun h => K59 (X := dX cIE) rfl la lo a o ha ho hle.1 h
    have k59b := fun h => K59 (X := dX cIE) rfl lb lo b o hb ho hle.2.1 h
    have k98a := fun h => K98 (X := dX cIE) rfl la a ha h
    have k98b := fun h => K98 (X := dX cIE) rfl lb b hb h
    have k37 : ∀ h, Cl (dX cIE) 37 [slN ((flatL a).map intC.enc), slN ((flatL b).map intC.enc)] h (.ret (.bool (befB (flatL a) (flatL b))) h none) := fun h => by
     have h1 := slV_slN (c := intC) (l := flatL a) (by rw [flatL_len]; unfold maxL; omega)
     have h2 := slV_slN (c := intC) (l := flatL b) (by rw [flatL_len]; unfold maxL; omega)
     exact Cl.intr (g := pureFn sp37) rfl (by simp [pureFn, AV.purL, sl_pur h1, sl_pur h2, sp37, h1, h2])
    have HBE := Lib.hid (show betB a b o = (decide ((manyP a o).1 < (manyP b o).1) || ((manyP a o).1 == (manyP b o).1) && (decide ((manyP a o).2 < (manyP b o).2) || ((manyP a o).2 == (manyP b o).2) && befB (flatL a) (flatL b))) from rfl)
    have oa := (slN_is ((flatL a).map intC.enc)).out
    have ob := (slN_is ((flatL b).map intC.enc)).out
    generalize slN ((flatL a).map intC.enc) = fa at *
    generalize slN ((flatL b).map intC.enc) = fb at *
    generalize befB (flatL a) (flatL b) = bf at *
    generalize (manyP a o).1 = n at *
    generalize (manyP a o).2 = x at *
    generalize (manyP b o).1 = m at *
    generalize (manyP b o).2 = y at *
    generalize betB a b o = res at *
    clear ha hb ho hle
    refine ClR.walk (c := _) rfl Tryz.func61 rfl (by kernel_rfl) rfl isRet_fail ?_
    simp only [entryEnv, Nat.reduceAdd, emptyHp]
    cases q1 : decide (n < m) <;> cases q2 : (n == m) <;> cases q3 : decide (x < y) <;> cases q4 : (x == y)
    all_goals (
     have hr := HBE.out
     simp only [q1, q2, q3, q4, Bool.false_or, Bool.true_or, Bool.false_and, Bool.true_and] at hr
     subst hr
     clear HBE
     repeat' (first | (refine WO1.gund rfl rfl ?_ ?_; exact Z2; simp only [pM, pN]) | refine go1 ?_ | (apply U6; exact Z1; exact Z1; (focus (simp only [List.nil_append, List.append_nil]; first | exact k59a _ | exact k59b _ | exact k98a _ | exact k98b _ | exact k37 _)); simp only [pM, pN, rR, rP]) | refine go2 (fun hh => ?_) (fun hh => ?_) | fail)
     all_goals (simp only [resV_def (X := dX cIE) Tryz.func61, Tryz.results61]; first | exact J5 | refine J6 ?_))
   ·cases h
  ·cases h
 ·cases h
theorem K61 {X : Ctx} (hX : X.intr 61 = some (pureFn sp61)) (la lb lo : AV) (a b o : List Pt) (ha : slV ptC la = some a) (hb : slV ptC lb = some b) (ho : slV ptC lo = some o) (hle : a.length ≤ o.length ∧ b.length ≤ o.length ∧ o.length ≤ 1000) (h : Heap) : Cl X 61 [la, lb, lo] h (.ret (.bool (betB a b o)) h none) :=
 Cl.intr hX (by simp [pureFn, AV.pur, AV.purL, sl_pur ha, sl_pur hb, sl_pur ho, sp61, ha, hb, ho, hle])
end Go.AM
namespace Go.AM
open Go Go.Proofs
variable [Keep]
attribute [local irreducible] W WO WO1 WD WQ WT thenQ blockQ endR isRet retK Cl ClR
attribute [local irreducible] roundQ RdR clR boundsS machB
def butB (hs : List Pt) (err : Int) : Bool := allB hs 2 80 && inB err 0 4
def suitB (m : Bool) (ss hs : List Pt) (err : Int) : Bool := m && butB hs err && decide (hs.length = ss.length)
end Go.AM
namespace Go.AM
open Go Go.Proofs
variable [Keep]
attribute [local irreducible] W WO WO1 WD WQ WT thenQ blockQ endR isRet retK Cl ClR
attribute [local irreducible] isNew roundQ RdR clR boundsS machB
def cellI (b sz : Nat) (l : List AV) (h : Heap) : Prop := b < h.next ∧ ∃ v, h.get b = some (.var [v]) ∧ Blt h v sz l
def cellO (b : Nat) (h : Heap) (id : Nat) : Prop := id = b ∨ ∃ off n, h.get b = some (.var [.row id off n])
theorem cell_ok {σ : Type} (b sz : Nat) (f : σ → List AV) (P : σ → Prop) : OwnOk (fun s h => cellI b sz (f s) h ∧ P s) (cellO b) := by
 refine ⟨fun s h h' i hn hg => ?_, fun s h id i ho => ?_⟩
 ·obtain ⟨⟨hb, v, g, bl⟩, hp⟩ := i
  have e := hg b (.inl rfl)
  refine ⟨⟨⟨Nat.lt_of_lt_of_le hb hn, v, e.trans g, ?_⟩, hp⟩, fun id ho => ?_⟩
  ·rcases bl with q | ⟨id, q1, q2, q3, q4⟩
   ·exact .inl q
   ·subst q1
    exact .inr ⟨id, rfl, (hg id (.inr ⟨_, _, g⟩)).trans q2, Nat.lt_of_lt_of_le q3 hn, q4⟩
  ·rcases ho with q | ⟨off, n, q⟩
   ·exact .inl q
   ·exact .inr ⟨off, n, by rw [← e]; exact q⟩
 ·obtain ⟨⟨hb, v, g, bl⟩, _⟩ := i
  rcases ho with rfl | ⟨off, n, q⟩
  ·exact hb
  ·rw [g] at q
   cases q
   rcases bl with ⟨q, _⟩ | ⟨id', q1, q2, q3, q4⟩
   ·cases q
   ·cases q1; exact q3
theorem Blt.ne_row {h : Heap} {v : AV} {sz id : Nat} {l : List AV} (b : Blt h v sz l) (hg : ∀ z r, h.get id ≠ some (.rw z r)) : ∀ off n, v ≠ .row id off n := by
 intro off n e
 rcases b with ⟨q, _⟩ | ⟨id', q1, q2, _⟩
 ·rw [q] at e; cases e
 ·rw [q1] at e; cases e; exact hg _ _ q2
theorem Blt.putv {h : Heap} {v : AV} {sz id : Nat} {l : List AV} {bl : Blk} (b : Blt h v sz l) (hg : ∀ z r, h.get id ≠ some (.rw z r)) : Blt (h.put id bl) v sz l := by
 rcases b with q | ⟨id', q1, q2, q3, q4⟩
 ·exact .inl q
 ·exact .inr ⟨id', q1, by rw [Heap.get_put, if_neg (fun e => hg _ _ (e ▸ q2))]; exact q2, q3, q4⟩
theorem cell_not {b sz id : Nat} {l vs : List AV} {h : Heap} (i : cellI b sz l h) (hne : id ≠ b) (hg : h.get id = some (.var vs)) : ¬ cellO b h id := by
 obtain ⟨hb, v, g, bl⟩ := i
 rintro (q | ⟨off, n, q⟩)
 ·exact hne q
 ·rw [g] at q
  cases q
  exact bl.ne_row (fun z r => by rw [hg]; simp) _ _ rfl
end Go.AM
namespace Go.AM
open Go
variable [Keep]
section
variable {X : Ctx} {ops : Array Oper} {K P : AV → Fr → Prop} {F : Fr} {d : Option Tmp} {T : TypeId} {p : String} {af : Array Edge}
end
section
variable {X : Ctx} {f : FuncId} {ops : Array Oper} {ts : List (Nat × Trace)} {i k j : Nat} {r : List (Nat × Nat)} {x y o : Oper} {d : Option Tmp} {op : Op} {T : TypeId} {ps : String} {af : Array Edge} {want b : Bool} {s : Tmp}
  {f1 f2 : FuncId} {r1 r2 : Bool} {e1 e2 : Mp AV} {lm1 lm2 : Mp (Nat × List AV)} {hp1 hp2 : Heap} {df1 df2 : List (AV × List AV)} {up1 up2 : Option (AV × Bool)} {v1 v2 : AV} {a1 a2 b2 : Fr}
theorem calmR (h1 : ops[i]? = some ⟨d, op, T, ps, af, none⟩) (h2 : ops[k]? = some y) (h3 : traceOf ts i = some ⟨Fr.mk f1 r1 e1 lm1 hp1 df1 up1, v1, a1⟩) (h4 : traceOf ts k = some ⟨b2, v2, Fr.mk f2 r2 e2 lm2 hp2 df2 up2⟩)
  (h5 : isEffD X f ⟨d, op, T, ps, af, none⟩ = false) (h7 : rdV X (Fr.mk f1 r1 e1 lm2 hp2 df1 up1) d op = some v1) (h8 : r.all (calmPair X f ops ts) = true) : ((i, k) :: r).all (calmPair X f ops ts) = true := by
 simp only [List.all_cons, h8, Bool.and_true, calmPair, h1, h2, h3, h4, h5, Bool.false_eq_true, if_false, rereads, wantedA, if_true, h7]
 exact AV.same_refl _
theorem calmE (h1 : ops[i]? = some x) (h2 : ops[k]? = some ⟨d, op, T, ps, af, none⟩) (h3 : traceOf ts i = some ⟨Fr.mk f1 r1 e1 lm1 hp1 df1 up1, v1, a1⟩) (h4 : traceOf ts k = some ⟨Fr.mk f2 r2 e2 lm2 hp2 df2 up2, v2, a2⟩)
  (h5 : isEffD X f x = true) (h7 : rdV X (Fr.mk f2 r2 e2 lm1 hp1 df2 up2) d op = some v2) (h8 : r.all (calmPair X f ops ts) = true) : ((i, k) :: r).all (calmPair X f ops ts) = true := by
 simp only [List.all_cons, h8, Bool.and_true, calmPair, h1, h2, h3, h4, h5, if_true, rereads, wantedA, h7]
 exact AV.same_refl _
theorem calmEnd : ([] : List (Nat × Nat)).all (calmPair X f ops ts) = true := rfl
end
end Go.AM
namespace Go.AM
open Go Go.Proofs
variable [Keep]
attribute [local irreducible] W WO WO1 WD WQ WT thenQ blockQ endR isRet retK Cl ClR
theorem slLen_mk {a : AV} {es : List AV} (h : isSl a es) : slLen a = some es.length := by rcases h with ⟨rfl | rfl, rfl⟩ | rfl <;> rfl
end Go.AM
namespace Go.AM
open Go Go.Proofs
variable [Keep]
attribute [local irreducible] W WO WO1 WD WQ WT thenQ blockQ endR isRet retK Cl ClR
attribute [local irreducible] isNew roundQ RdR clR boundsS machB boxL suitB
theorem mach_small {ss : List Pt} {cx cy wx wy : Sp} {rs : List Rdg} (h : machB ss cx cy wx wy rs = true) : 2 ≤ ss.length ∧ ss.length ≤ 4 ∧ rs.length ≤ 4 := by
 unfold machB at h
 simp only [Bool.and_eq_true, decide_eq_true_eq] at h
 have h1 : allB ss 2 20 = true := by simp only [h]
 rw [allB_P] at h1
 simp only [pointsB, inB, Bool.and_eq_true, decide_eq_true_eq] at h1
 omega
end Go.AM
namespace Go.AM
open Go
variable [Keep]
structure BdB (b : Bx) : Prop where
 a : -104 ≤ b.x.lo ∧ b.x.lo ≤ 104 ∧ -104 ≤ b.x.hi ∧ b.x.hi ≤ 104
 b : -104 ≤ b.y.lo ∧ b.y.lo ≤ 104 ∧ -104 ≤ b.y.hi ∧ b.y.hi ≤ 104
theorem ords_ext (n : Nat) : ∀ (d : Nat) (p : List Nat), ordsL n d p = ext n d p := by
 intro d
 induction d with
 | zero => intro p; rfl
 | succ d ih =>
  intro p
  simp only [ordsL, ext, kidsTo]
  rw [List.flatMap_map]
  induction List.range n with
  | nil => rfl
  | cons i r ihr =>
   rw [List.flatMap_cons, ihr, List.filter_cons]
   cases h : p.contains i with
   | true => simp
   | false => simp [ih]
theorem ords_lev (n : Nat) : ordsL n n [] = lev n n := by
 have := lev_ext n n 0
 rw [Nat.zero_add] at this
 rw [this, ords_ext]
 show _ = [[]].flatMap (ext n n)
 simp
section
variable {err : Int} {ss hs : List Pt} (h20 : ss.all (okPt 20) = true) (h80 : hs.all (okPt 80) = true) (h0 : 0 ≤ err) (h4 : err ≤ 4) (hn : 1 ≤ ss.length)
include h20 h80 h0 h4 hn
end
structure HeldOk (m : Held) : Prop where
 b : 0 ≤ m.b ∧ m.b ≤ 12
 x : -104 ≤ m.x.lo ∧ m.x.lo ≤ 104 ∧ -104 ≤ m.x.hi ∧ m.x.hi ≤ 104
 y : -104 ≤ m.y.lo ∧ m.y.lo ≤ 104 ∧ -104 ≤ m.y.hi ∧ m.y.hi ≤ 104
section
variable {st : List Pt} {cx cy wx wy : Sp} {rs : List Rdg} (h : machB st cx cy wx wy rs = true) {ms : List Held} (hm : ∀ m ∈ ms, HeldOk m)
include h hm
end
end Go.AM
namespace Go.AM
open Go
variable [Keep]
def hullS (a s : Sp) : Sp := ⟨minV a.lo s.lo, maxV a.hi s.hi⟩
end Go.AM
namespace Go.AM
open Go Go.Proofs
variable [Keep]
attribute [local irreducible] W WO WO1 WD WQ WT thenQ blockQ endR isRet retK Cl ClR
attribute [local irreducible] roundQ RdR clR boundsS machB measB askOk rsGo bestTo
def hullL (l : List Sp) (n : Nat) : Sp := ((l.drop 1).take n).foldl hullS (l.getD 1 ⟨0, 0⟩)
def boxH (a b : List Sp) (n : Nat) : Bx := ⟨hullL a n, hullL b n⟩
def rsAll (off : Int) (hs st : List Pt) (b : Bx) : List Rs := (List.range 8).flatMap fun t => (ordsL st.length st.length []).filterMap fun o => rsGo off t hs st o b st.length
def resetV (ok : Bool) (A B : Option (List Sp)) (off : Int) (hs st : List Pt) (n : Nat) : AV :=
 if ok then (match A, B with
  | some a, some b => if rsAll off hs st (boxH a b n) = [] then .tuple [.nilslice, .int .i64 0, .int .i64 5] else .tuple [slN ((bestTo (rsAll off hs st (boxH a b n))).st.map ptC.enc), .int .i64 (bestTo (rsAll off hs st (boxH a b n))).n, .int .i64 0]
  | _, _ => .tuple [.nilslice, .int .i64 0, .int .i64 7]) else .tuple [.nilslice, .int .i64 0, .int .i64 2]
theorem resetV_pur (ok : Bool) (A B : Option (List Sp)) (off : Int) (hs st : List Pt) (n : Nat) : (resetV ok A B off hs st n).pur = true := by
 unfold resetV
 cases ok
 ·rfl
 ·cases A <;> cases B <;> simp only [if_true] <;> first | rfl | skip
  split
  ·rfl
  ·simp [AV.pur, AV.purL, slN_pur (enc_pur ptC _)]
def sp57 : List AV → Option AV
 | [.agg [ca, .int .i64 off], .agg [sa, .int .i64 cxl, .int .i64 cxh, .int .i64 cyl, .int .i64 cyh, .int .i64 wxl, .int .i64 wxh, .int .i64 wyl, .int .i64 wyh, ra], .int .i64 blank] => match slV ptC ca, slV ptC sa, slV rdgC ra with
  | some hs, some st, some rs => some (resetV (askOk hs st off (machB st ⟨cxl, cxh⟩ ⟨cyl, cyh⟩ ⟨wxl, wxh⟩ ⟨wyl, wyh⟩ rs) (inB blank 1 12)) (boundsS (ax0 ⟨cxl, cxh⟩ ⟨wxl, wxh⟩ rs [])) (boundsS (ax1 ⟨cyl, cyh⟩ ⟨wyl, wyh⟩ rs [])) off hs st blank.toNat)
  | _, _, _ => none
 | _ => none
theorem p57 : ∀ args v, sp57 args = some v → v.pur = true := by
 intro args v h
 unfold sp57 at h
 split at h
 ·split at h
  ·have h := Option.some.inj h
   subst h
   exact resetV_pur _ _ _ _ _ _ _
  ·cases h
 ·cases h
noncomputable def cID : FuncId → Option (List AV → Heap → Option (AV × Heap))
 | 93 => some (pureFn sp93)
 | 96 => some (pureFn sp96)
 | 107 => some (pureFn sp107)
 | 116 => some (flatFn sp116)
 | 122 => some (newP sp122)
 | 124 => some (pureFn sp124)
 | _ => none
theorem cID_sound (hT : TabK Tryz.prog) : Sound (dX cID) := dX_sound (fun f g h => by
 unfold cID at h
 split at h
 ·cases h; exact F93
 ·cases h; exact F96
 ·cases h; exact F107
 ·cases h; exact F116
 ·cases h; exact F122 hT
 ·cases h; exact F124
 ·cases h)
theorem ia147m_0 (H : Heap) (s : Tmp) (g off : Nat) : indexAddrV Tryz.prog H 147 (.lptr s g off) (.int .i64 0) = some (.lptr s g off) := by
 simp only [indexAddrV, Tryz.underlying147, ty_lay146]; rfl
theorem ia147m_1 (H : Heap) (s : Tmp) (g off : Nat) : indexAddrV Tryz.prog H 147 (.lptr s g off) (.int .i64 1) = some (.lptr s g (off + 1)) := by
 simp only [indexAddrV, Tryz.underlying147, ty_lay146]; rfl
theorem or_else {Q : Prop} (p : Prop) [Decidable p] (h1 : p → Q) (h2 : ¬ p → Q) : Q := if h : p then h1 h else h2 h
theorem cut146 {l : List Sp} {n : Nat} (hl : l.length = 13) (hn : n ≤ 12) (H : Heap) : sliceV Tryz.prog H 146 (.vslice (l.map spC.enc)) (some (some (.int .i64 1))) (some (some (.int .i64 ↑(n + 1)))) none = some (.vslice (((l.drop 1).take n).map spC.enc)) := by
 have hb : boundsV (l.map spC.enc).length (some (some (.int .i64 1))) (some (some (.int .i64 ((n + 1 : Nat) : Int)))) none = some (1, n + 1, false) := by
  rw [List.length_map]
  have h1 : (0 : Int) ≤ ((n + 1 : Nat) : Int) ∧ ((n + 1 : Nat) : Int) ≤ (l.length : Int) := by omega
  have h2 : (0 : Int) ≤ 1 ∧ (1 : Int) ≤ ((n + 1 : Nat) : Int) := by omega
  simp only [boundsV, boundV, h1, h2, and_self, if_true, Int.toNat_natCast]
  rfl
 have hh : headOk 2 (l.map spC.enc) = true := by
  cases l with
  | nil => rfl
  | cons p l => rfl
 simp only [sliceV, Tryz.underlying146, ty_lay48, lenS, hb, cutV, Bool.false_eq_true, if_false, hh, if_true]
 rw [← List.map_take, ← List.map_drop, List.drop_take]
 rfl
theorem ords_small {n : Nat} (h : n ≤ 4) : (ordsL n n []).length ≤ 24 := by
 match n, h with
 | 0, _ => decide
 | 1, _ => decide
 | 2, _ => decide
 | 3, _ => decide
 | 4, _ => decide
theorem rsGo_len {off : Int} {t : Nat} {hs st : List Pt} {o : List Nat} {b : Bx} : ∀ {n : Nat} {r : Rs}, rsGo off t hs st o b n = some r → r.st.length = st.length := by
 intro n
 induction n with
 | zero => intro r h; unfold rsGo at h; cases h; rfl
 | succ n ih =>
  intro r h
  unfold rsGo at h
  split at h
  ·cases h
  ·rename_i q hq
   split at h
   ·have h := Option.some.inj h
    subst h
    unfold rsAdd
    split <;> simp [ih hq]
   ·cases h
def rsOne (off : Int) (hs st : List Pt) (b : Bx) (t : Nat) : List Rs := (ordsL st.length st.length []).filterMap fun o => rsGo off t hs st o b st.length
def rsTo (off : Int) (hs st : List Pt) (b : Bx) (k : Nat) : List Rs := (List.range k).flatMap (rsOne off hs st b)
theorem rsTo_succ (off : Int) (hs st : List Pt) (b : Bx) (k : Nat) : rsTo off hs st b (k + 1) = rsTo off hs st b k ++ rsOne off hs st b k := by
 unfold rsTo
 rw [List.range_succ, List.flatMap_append]
 simp
theorem rsTo_len {off : Int} {hs st : List Pt} {b : Bx} (h : st.length ≤ 4) : ∀ k, (rsTo off hs st b k).length ≤ 24 * k := by
 intro k
 induction k with
 | zero => simp [rsTo]
 | succ k ih =>
  rw [rsTo_succ, List.length_append]
  have h1 : (rsOne off hs st b k).length ≤ (ordsL st.length st.length []).length := List.length_filterMap_le _ _
  have h2 := ords_small h
  omega
theorem rsTo_st {off : Int} {hs st : List Pt} {b : Bx} (k : Nat) : ∀ r ∈ rsTo off hs st b k, r.st.length = st.length := by
 intro r hr
 obtain ⟨t, _, h⟩ := List.mem_flatMap.1 hr
 obtain ⟨o, _, ho⟩ := List.mem_filterMap.1 h
 exact rsGo_len ho
def stepR (off : Int) (hs st : List Pt) (b : Bx) (t : Nat) (o : List Nat) (s : List Rs) : List Rs × Bool := ((match rsGo off t hs st o b st.length with | some r => s ++ [r] | none => s), true)
theorem foldR (off : Int) (hs st : List Pt) (b : Bx) (t : Nat) : ∀ (l : List (List Nat)) (s : List Rs), foldS (stepR off hs st b t) l s = (s ++ l.filterMap (fun o => rsGo off t hs st o b st.length), true) := by
 intro l
 induction l with
 | nil => intro s; simp [foldS]
 | cons o l ih =>
  intro s
  simp only [foldS, stepR, if_true]
  have := ih (match rsGo off t hs st o b st.length with | some r => s ++ [r] | none => s)
  refine Eq.trans this ?_
  cases h : rsGo off t hs st o b st.length with
  | none => simp [List.filterMap_cons, h]
  | some r => simp [List.filterMap_cons, h]
theorem stR_goR {σ : Type} {I D : σ → Heap → Prop} {own : Heap → Nat → Prop} {ex : Nat → Prop} {h h' : Heap} {x : σ × Bool} {s : σ} (e : x = (s, true)) (q : I s h' ∧ Rel own h h') : stR I D own ex h x (.ret (.bool true) h' none) := stR_go e q.1 q.2
def rsP (n : Nat) (s : List Rs) : Prop := ∀ r ∈ s, r.st.length = n
set_option maxHeartbeats 16000000 in
theorem F57 (hT : TabK Tryz.prog) : IntrFn Tryz.prog 57 (pureFn sp57) := by
 refine pure_fn (X := dX cID) (cID_sound hT) p57 ?_
 intro args v h
 unfold sp57 at h
 split at h
 ·rename_i ca off sa cxl cxh cyl cyh wxl wxh wyl wyh ra blank
  split at h
  ·rename_i hs st rs hc hl hr
   have h := Option.some.inj h
   subst h
   have o1 := sl_out hc
   have o2 := sl_out hl
   have o3 := sl_out hr
   obtain ⟨n1, t1⟩ := sl_one hc
   obtain ⟨n2, t2⟩ := sl_one hl
   obtain ⟨n3, t3⟩ := sl_one hr
   have c1 : ca.cells = [ca] := (slV_is hc).1.cells
   have c2 : sa.cells = [sa] := (slV_is hl).1.cells
   have c3 : ra.cells = [ra] := (slV_is hr).1.cells
   have ln2 := sl_len hl
   simp only [AV.cells] at c1 c2 c3
   have k93 := fun h => K93 (X := dX cID) rfl blank 1 12 h
   have k107 : ∀ h, Cl (dX cID) 107 [.agg [ca, .int .i64 off], .agg [sa, .int .i64 cxl, .int .i64 cxh, .int .i64 cyl, .int .i64 cyh, .int .i64 wxl, .int .i64 wxh, .int .i64 wyl, .int .i64 wyh, ra], .bool (inB blank 1 12)] h (.ret (askV (askOk hs st off (machB st ⟨cxl, cxh⟩ ⟨cyl, cyh⟩ ⟨wxl, wxh⟩ ⟨wyl, wyh⟩ rs) (inB blank 1 12)) (boundsS (ax0 ⟨cxl, cxh⟩ ⟨wxl, wxh⟩ rs [])) (boundsS (ax1 ⟨cyl, cyh⟩ ⟨wyl, wyh⟩ rs []))) h none) := fun h =>
    Cl.intr (g := pureFn sp107) rfl (by simp [pureFn, AV.pur, AV.purL, sl_pur hc, sl_pur hl, sl_pur hr, sp107, hc, hl, hr])
   have HOKS := Lib.hid (show askOk hs st off (machB st ⟨cxl, cxh⟩ ⟨cyl, cyh⟩ ⟨wxl, wxh⟩ ⟨wyl, wyh⟩ rs) (inB blank 1 12) = true → inB blank 1 12 = true ∧ 2 ≤ st.length ∧ st.length ≤ 4 ∧ hs.length = st.length by
    intro q
    unfold askOk at q
    simp only [Bool.and_eq_true, decide_eq_true_eq] at q
    have q1 := mach_small q.1.1.2
    exact ⟨q.2, q1.1, q1.2.1, q.1.2.symm⟩)
   have HA := Lib.hid (fun a (h : boundsS (ax0 ⟨cxl, cxh⟩ ⟨wxl, wxh⟩ rs []) = some a) => boundsS_len h)
   have HB := Lib.hid (fun a (h : boundsS (ax1 ⟨cyl, cyh⟩ ⟨wyl, wyh⟩ rs []) = some a) => boundsS_len h)
   have HC := Lib.hid hc
   have HL := Lib.hid hl
   generalize askOk hs st off (machB st ⟨cxl, cxh⟩ ⟨cyl, cyh⟩ ⟨wxl, wxh⟩ ⟨wyl, wyh⟩ rs) (inB blank 1 12) = ok at *
   generalize boundsS (ax0 ⟨cxl, cxh⟩ ⟨wxl, wxh⟩ rs []) = A at *
   generalize boundsS (ax1 ⟨cyl, cyh⟩ ⟨wyl, wyh⟩ rs []) = B at *
   have b20 : ((2 : Int) != 0) = true := rfl
   have b70 : ((7 : Int) != 0) = true := rfl
   have b00 : ((0 : Int) != 0) = false := rfl
   clear hc hl hr
   refine ClR.walk (c := _) rfl Tryz.func57 rfl (by kernel_rfl) rfl isRet_fail ?_
   simp only [entryEnv, Nat.reduceAdd, emptyHp]
   have hcase : (∃ e, askV ok A B = .tuple [.agg [.nilslice, .nilslice], .int .i64 e] ∧ resetV ok A B off hs st blank.toNat = .tuple [.nilslice, .int .i64 0, .int .i64 e] ∧ (e != 0) = true) ∨ (ok = true ∧ ∃ a b, A = some a ∧ B = some b) := by
    cases ok with
    | false => exact .inl ⟨2, rfl, rfl, rfl⟩
    | true =>
     cases A with
     | none => exact .inl ⟨7, rfl, rfl, rfl⟩
     | some a => cases B with
      | none => exact .inl ⟨7, rfl, rfl, rfl⟩
      | some b => exact .inr ⟨rfl, a, b, rfl, rfl⟩
   rcases hcase with ⟨e, e1, e2, e3⟩ | ⟨rfl, a, b, rfl, rfl⟩
   ·rw [e1] at k107
    rw [e2]
    have HK107 := Lib.hid k107
    clear e1 e2 k107
    repeat' (first | (apply Z7 (o := ⟨some 9, .alloc 147, 0, _, _, none⟩); exact rfl; exact rfl; exact Z1; simp only [pM, pN]) | (apply W.drawQ (id := 1) (l1 := [8, 0, 1, 2, 3, 4, 5, 6, 7]) (l2 := [9, 10]); kernel_rfl; kernel_rfl; kernel_rfl; exact Z4) | (apply W.drawQ (id := 12) (l1 := [0, 1, 2, 3, 4, 5, 6, 7, 8, 9, 10, 11, 12, 13, 14, 15, 16]) (l2 := [17]); kernel_rfl; kernel_rfl; kernel_rfl; exact Z4) | (apply Z7 (o := ⟨some 18, .alloc 186, 0, _, _, none⟩); exact rfl; exact rfl; exact Z1; simp only [pM, pN]) | (apply W.drawQ (id := 21) (l1 := [11, 0, 1, 2, 3, 4, 5, 6, 7, 8, 9, 10]) (l2 := [12, 13]); kernel_rfl; kernel_rfl; kernel_rfl; exact Z4) | (apply W.drawQ (id := 28) (l1 := [0, 1, 2, 3, 4, 5, 6]) (l2 := []); kernel_rfl; kernel_rfl; kernel_rfl; exact Z4) | refine go1 ?_ | (apply U6; exact Z1; exact Z1; (focus (simp only [List.nil_append, List.append_nil]; first | exact k93 _ | exact HK107.out _)); simp only [pM, pN, rR, rP]) | refine go2 (fun hh => ?_) (fun hh => ?_) | fail)
    all_goals (simp only [resV_def (X := dX cID) Tryz.func57, Tryz.results57]; first | exact J5 | refine J6 ?_)
   ·obtain ⟨hin, hn2, hn4, hhs⟩ := HOKS.out rfl
    have la := HA.out a rfl
    have lb := HB.out b rfl
    obtain ⟨n, rfl, hn1, hn12⟩ : ∃ n : Nat, blank = n ∧ 1 ≤ n ∧ n ≤ 12 := by
     simp only [inB, Bool.and_eq_true, decide_eq_true_eq] at hin
     exact ⟨blank.toNat, by omega, by omega, by omega⟩
    have nn : ∀ l : List Sp, l.length = 13 → slN (l.map spC.enc) = .vslice (l.map spC.enc) := by
     intro l hl
     cases l with
     | nil => simp at hl
     | cons x r => rfl
    simp only [askV, if_true, nn a la, nn b lb] at k107
    rw [hin] at k93
    rw [hin] at k107
    have HK107 := Lib.hid k107
    clear k107 HOKS HA HB nn hin
    obtain ⟨a1, ha1⟩ := get_some (show 1 < a.length by omega)
    obtain ⟨b1, hb1⟩ := get_some (show 1 < b.length by omega)
    have hai : ∀ H, indexAddrV Tryz.prog H 146 (.vslice (a.map spC.enc)) (.int .i64 1) = some (.vptr [.int .i64 a1.lo, .int .i64 a1.hi]) := fun H => sp_idx ha1 H
    have hbi : ∀ H, indexAddrV Tryz.prog H 146 (.vslice (b.map spC.enc)) (.int .i64 1) = some (.vptr [.int .i64 b1.lo, .int .i64 b1.hi]) := fun H => sp_idx hb1 H
    have cutX : ∀ l : List Sp, l.length = 13 → ∃ va, (∀ H, sliceV Tryz.prog H 146 (.vslice (l.map spC.enc)) (some (some (.int .i64 1))) (some (some (.int .i64 ↑(n + 1)))) none = some va) ∧ lenS va = some n ∧ outV (some va) = some va ∧ ∀ (i : Nat) (p : Sp), ((l.drop 1).take n)[i]? = some p → ∀ H, indexAddrV Tryz.prog H 146 va (.int .i64 ↑i) = some (.vptr [.int .i64 p.lo, .int .i64 p.hi]) := fun l hl =>
     ⟨_, fun H => cut146 hl hn12 H, by
      show some (List.map spC.enc ((l.drop 1).take n)).length = some n
      rw [List.length_map, List.length_take, List.length_drop, hl]
      congr 1
      omega, rfl, fun i p hp H => sp_idx hp H⟩
    obtain ⟨va, hva, lva, ova, iva⟩ := cutX a la
    obtain ⟨vb, hvb, lvb, ovb, ivb⟩ := cutX b lb
    have hw1 : IntKind.i64.wrap ((n : Int) + 1) = ((n + 1 : Nat) : Int) := wrap_succ (k := n) (m := 13) (by omega) (by unfold maxL; omega)
    have w01 : IntKind.i64.wrap (0 + 1) = 1 := by decide
    have w11 : IntKind.i64.wrap (1 + 1) = 2 := by decide
    have hsa : hullL a n = ((a.drop 1).take n).foldl hullS a1 := by unfold hullL; rw [List.getD, ha1]; rfl
    have hsb : hullL b n = ((b.drop 1).take n).foldl hullS b1 := by unfold hullL; rw [List.getD, hb1]; rfl
    have hla : ((a.drop 1).take n).length = n := by rw [List.length_take, List.length_drop, la]; omega
    have hlb : ((b.drop 1).take n).length = n := by rw [List.length_take, List.length_drop, lb]; omega
    have hia := ia147m_0
    have hib := ia147m_1
    have hic := ia169p_0
    have hid' := ia169p_1
    have HLA := Lib.hid hla
    have HLB := Lib.hid hlb
    have HRV := Lib.hid (show resetV true (some a) (some b) off hs st n = if rsAll off hs st ⟨((a.drop 1).take n).foldl hullS a1, ((b.drop 1).take n).foldl hullS b1⟩ = [] then .tuple [.nilslice, .int .i64 0, .int .i64 5] else .tuple [slN ((bestTo (rsAll off hs st ⟨((a.drop 1).take n).foldl hullS a1, ((b.drop 1).take n).foldl hullS b1⟩)).st.map ptC.enc), .int .i64 (bestTo (rsAll off hs st ⟨((a.drop 1).take n).foldl hullS a1, ((b.drop 1).take n).foldl hullS b1⟩)).n, .int .i64 0] by
     simp only [resetV, if_true, boxH, hsa, hsb])
    simp only [Int.toNat_natCast]
    rw [HRV.out]
    generalize (a.drop 1).take n = sa1 at *
    generalize (b.drop 1).take n = sb1 at *
    clear ha1 hb1 la lb hsa hsb hla hlb HRV cutX
    repeat' (first | (apply Z7 (o := ⟨some 9, .alloc 147, 0, _, _, none⟩); exact rfl; exact rfl; exact Z1; simp only [pM, pN]) | (apply W.drawQ (id := 1) (l1 := [8, 0, 1, 2, 3, 4, 5, 6, 7]) (l2 := [9, 10]); kernel_rfl; kernel_rfl; kernel_rfl; exact Z4) | (apply W.drawQ (id := 12) (l1 := [0, 1, 2, 3, 4, 5, 6, 7, 8, 9, 10, 11, 12, 13, 14, 15, 16]) (l2 := [17]); kernel_rfl; kernel_rfl; kernel_rfl; exact Z4) | (apply Z7 (o := ⟨some 18, .alloc 186, 0, _, _, none⟩); exact rfl; exact rfl; exact Z1; simp only [pM, pN]) | (apply W.drawQ (id := 21) (l1 := [11, 0, 1, 2, 3, 4, 5, 6, 7, 8, 9, 10]) (l2 := [12, 13]); kernel_rfl; kernel_rfl; kernel_rfl; exact Z4) | (apply W.drawQ (id := 28) (l1 := [0, 1, 2, 3, 4, 5, 6]) (l2 := []); kernel_rfl; kernel_rfl; kernel_rfl; exact Z4) | refine go1 ?_ | (apply U6; exact Z1; exact Z1; (focus (simp only [List.nil_append, List.append_nil]; first | exact k93 _ | exact HK107.out _)); simp only [pM, pN, rR, rP]) | refine go2 (fun hh => ?_) (fun hh => ?_) | fail)
    refine W.unroll ?_
    repeat' (first | (apply U4; (focus (simp only [go_sem, *, Nat.reduceLT, Int.reduceEq, Int.reduceBEq, Int.reduceLE, Int.reduceLT, Nat.reduceAdd, Nat.reduceBEq, Nat.reduceEqDiff, reduceIte, Nat.reduceLeDiff, Nat.reduceMul, Nat.reduceSub, reduceCtorEq, Option.map_some, Option.map_none]; rfl)); exact rfl; simp only [pM, pN]) | (apply Z7 (o := ⟨some 9, .alloc 147, 0, _, _, none⟩); exact rfl; exact rfl; exact Z1; simp only [pM, pN]) | (apply W.drawQ (id := 1) (l1 := [8, 0, 1, 2, 3, 4, 5, 6, 7]) (l2 := [9, 10]); kernel_rfl; kernel_rfl; kernel_rfl; exact Z4) | (apply W.drawQ (id := 12) (l1 := [0, 1, 2, 3, 4, 5, 6, 7, 8, 9, 10, 11, 12, 13, 14, 15, 16]) (l2 := [17]); kernel_rfl; kernel_rfl; kernel_rfl; exact Z4) | (apply Z7 (o := ⟨some 18, .alloc 186, 0, _, _, none⟩); exact rfl; exact rfl; exact Z1; simp only [pM, pN]) | (apply W.drawQ (id := 21) (l1 := [11, 0, 1, 2, 3, 4, 5, 6, 7, 8, 9, 10]) (l2 := [12, 13]); kernel_rfl; kernel_rfl; kernel_rfl; exact Z4) | (apply W.drawQ (id := 28) (l1 := [0, 1, 2, 3, 4, 5, 6]) (l2 := []); kernel_rfl; kernel_rfl; kernel_rfl; exact Z4) | refine go1 ?_ | refine go2 (fun hh => ?_) (fun hh => ?_) | fail)
    refine W.loopN n (fun i F => ∃ e lm hp acc, F = Fr.mk 57 false e lm hp [] none ∧ acc = (sa1.take i).foldl hullS a1 ∧ hp.get 0 = some (.var [ca, .int .i64 off]) ∧ hp.get 1 = some (.var [sa, .int .i64 cxl, .int .i64 cxh, .int .i64 cyl, .int .i64 cyh, .int .i64 wxl, .int .i64 wxh, .int .i64 wyl, .int .i64 wyh, ra]) ∧ hp.get 2 = some (.var [.int .i64 acc.lo, .int .i64 acc.hi, .int .i64 0, .int .i64 0]) ∧ hp.next = 3 ∧ lm.get 9 = some (0, [.vslice (a.map spC.enc), .vslice (b.map spC.enc)]) ∧
     e.get 2 = some (.int .i64 ↑n) ∧ e.get 3 = some (.ptr 0 0) ∧ e.get 4 = some (.ptr 1 0) ∧ e.get 9 = some (.lptr 9 0 0) ∧ e.get 11 = some (.ptr 2 0) ∧ e.get 12 = some (.int .i64 0) ∧ e.get 33 = some (.int .i64 0) ∧ e.get 48 = some va ∧ e.get 49 = some (.int .i64 ↑n) ∧ e.get 50 = some (.int .i64 ↑i) ∧ i ≤ n) ?_ ?_
    ·refine ⟨_, _, _, a1, rfl, rfl, ?_, ?_, ?_, ?_, ?_, ?_, ?_, ?_, ?_, ?_, ?_, ?_, ?_, ?_, ?_, ?_⟩ <;> first | (simp only [hp_get, go_sem, *, Nat.reduceLT, Int.reduceEq, Int.reduceBEq, Int.reduceLE, Int.reduceLT, Nat.reduceAdd, Nat.reduceBEq, Nat.reduceEqDiff, reduceIte, Nat.reduceLeDiff, Nat.reduceMul, Nat.reduceSub, reduceCtorEq]; done) | simp [hp_get, go_sem, *, Nat.reduceLT, Int.reduceEq, Int.reduceBEq, Int.reduceLE, Int.reduceLT, Nat.reduceAdd, Nat.reduceBEq, Nat.reduceEqDiff, reduceIte, Nat.reduceLeDiff, Nat.reduceMul, Nat.reduceSub, reduceCtorEq]
    skip
    rintro i F ⟨e, lm, ⟨qn, qm⟩, acc, rfl, hacc, g0, g1, g2, hqn, l9, h2, h3, h4, h9, h11, h12, h33, h48, h49, h50, hi⟩
    simp only at hqn
    subst hqn
    have HACC := Lib.hid hacc
    simp only [hp_get] at g0 g1 g2
    clear hacc
    refine or_else (i < n) (fun hlt => ?_) (fun hin2 => ?_)
    ·have hd : decide ((i : Int) < (n : Int)) = true := by simpa using hlt
     have hw := wrap_succ (m := n) hlt (by unfold maxL; omega)
     obtain ⟨p, hp⟩ := get_some (show i < sa1.length by rw [HLA.out]; exact hlt)
     have hpi := fun H => iva i p hp H
     have hnx : (sa1.take (i + 1)).foldl hullS a1 = hullS acc p := by rw [take_next hp, List.foldl_append, ← HACC.out]; rfl
     have HNX := Lib.hid hnx
     clear hp hnx
     repeat' (first | (apply Z7 (o := ⟨some 9, .alloc 147, 0, _, _, none⟩); exact rfl; exact rfl; exact Z1; simp only [pM, pN]) | (apply W.drawQ (id := 1) (l1 := [8, 0, 1, 2, 3, 4, 5, 6, 7]) (l2 := [9, 10]); kernel_rfl; kernel_rfl; kernel_rfl; exact Z4) | (apply W.drawQ (id := 12) (l1 := [0, 1, 2, 3, 4, 5, 6, 7, 8, 9, 10, 11, 12, 13, 14, 15, 16]) (l2 := [17]); kernel_rfl; kernel_rfl; kernel_rfl; exact Z4) | (apply Z7 (o := ⟨some 18, .alloc 186, 0, _, _, none⟩); exact rfl; exact rfl; exact Z1; simp only [pM, pN]) | (apply W.drawQ (id := 21) (l1 := [11, 0, 1, 2, 3, 4, 5, 6, 7, 8, 9, 10]) (l2 := [12, 13]); kernel_rfl; kernel_rfl; kernel_rfl; exact Z4) | (apply W.drawQ (id := 28) (l1 := [0, 1, 2, 3, 4, 5, 6]) (l2 := []); kernel_rfl; kernel_rfl; kernel_rfl; exact Z4) | refine go1 ?_ | refine go2 (fun hh => ?_) (fun hh => ?_) | fail)
     refine ⟨hlt, _, _, _, hullS acc p, rfl, HNX.out.symm, ?_, ?_, ?_, ?_, ?_, ?_, ?_, ?_, ?_, ?_, ?_, ?_, ?_, ?_, ?_, by omega⟩
     all_goals first | (simp only [hp_get, hullS, go_sem, *, Nat.reduceLT, Int.reduceEq, Int.reduceBEq, Int.reduceLE, Int.reduceLT, Nat.reduceAdd, Nat.reduceBEq, Nat.reduceEqDiff, reduceIte, Nat.reduceLeDiff, Nat.reduceMul, Nat.reduceSub, reduceCtorEq]; done) | simp [hp_get, hullS, go_sem, *, Nat.reduceLT, Int.reduceEq, Int.reduceBEq, Int.reduceLE, Int.reduceLT, Nat.reduceAdd, Nat.reduceBEq, Nat.reduceEqDiff, reduceIte, Nat.reduceLeDiff, Nat.reduceMul, Nat.reduceSub, reduceCtorEq]
    have hd : decide ((i : Int) < (n : Int)) = false := by simpa using hin2
    have hacc := HACC.out
    rw [show i = n by omega, show n = sa1.length from HLA.out.symm, List.take_length] at hacc
    generalize acc = ra1 at *
    have HRA := Lib.hid hacc
    clear hacc HACC hi
    repeat' (first | (apply Z7 (o := ⟨some 9, .alloc 147, 0, _, _, none⟩); exact rfl; exact rfl; exact Z1; simp only [pM, pN]) | (apply W.drawQ (id := 1) (l1 := [8, 0, 1, 2, 3, 4, 5, 6, 7]) (l2 := [9, 10]); kernel_rfl; kernel_rfl; kernel_rfl; exact Z4) | (apply W.drawQ (id := 12) (l1 := [0, 1, 2, 3, 4, 5, 6, 7, 8, 9, 10, 11, 12, 13, 14, 15, 16]) (l2 := [17]); kernel_rfl; kernel_rfl; kernel_rfl; exact Z4) | (apply Z7 (o := ⟨some 18, .alloc 186, 0, _, _, none⟩); exact rfl; exact rfl; exact Z1; simp only [pM, pN]) | (apply W.drawQ (id := 21) (l1 := [11, 0, 1, 2, 3, 4, 5, 6, 7, 8, 9, 10]) (l2 := [12, 13]); kernel_rfl; kernel_rfl; kernel_rfl; exact Z4) | (apply W.drawQ (id := 28) (l1 := [0, 1, 2, 3, 4, 5, 6]) (l2 := []); kernel_rfl; kernel_rfl; kernel_rfl; exact Z4) | refine go1 ?_ | refine go2 (fun hh => ?_) (fun hh => ?_) | fail)
    refine W.unroll ?_
    repeat' (first | (apply U4; (focus (simp only [go_sem, *, Nat.reduceLT, Int.reduceEq, Int.reduceBEq, Int.reduceLE, Int.reduceLT, Nat.reduceAdd, Nat.reduceBEq, Nat.reduceEqDiff, reduceIte, Nat.reduceLeDiff, Nat.reduceMul, Nat.reduceSub, reduceCtorEq, Option.map_some, Option.map_none]; rfl)); exact rfl; simp only [pM, pN]) | (apply Z7 (o := ⟨some 9, .alloc 147, 0, _, _, none⟩); exact rfl; exact rfl; exact Z1; simp only [pM, pN]) | (apply W.drawQ (id := 1) (l1 := [8, 0, 1, 2, 3, 4, 5, 6, 7]) (l2 := [9, 10]); kernel_rfl; kernel_rfl; kernel_rfl; exact Z4) | (apply W.drawQ (id := 12) (l1 := [0, 1, 2, 3, 4, 5, 6, 7, 8, 9, 10, 11, 12, 13, 14, 15, 16]) (l2 := [17]); kernel_rfl; kernel_rfl; kernel_rfl; exact Z4) | (apply Z7 (o := ⟨some 18, .alloc 186, 0, _, _, none⟩); exact rfl; exact rfl; exact Z1; simp only [pM, pN]) | (apply W.drawQ (id := 21) (l1 := [11, 0, 1, 2, 3, 4, 5, 6, 7, 8, 9, 10]) (l2 := [12, 13]); kernel_rfl; kernel_rfl; kernel_rfl; exact Z4) | (apply W.drawQ (id := 28) (l1 := [0, 1, 2, 3, 4, 5, 6]) (l2 := []); kernel_rfl; kernel_rfl; kernel_rfl; exact Z4) | refine go1 ?_ | refine go2 (fun hh => ?_) (fun hh => ?_) | fail)
    refine W.loopN n (fun i F => ∃ e lm hp acc, F = Fr.mk 57 false e lm hp [] none ∧ acc = (sb1.take i).foldl hullS b1 ∧ hp.get 0 = some (.var [ca, .int .i64 off]) ∧ hp.get 1 = some (.var [sa, .int .i64 cxl, .int .i64 cxh, .int .i64 cyl, .int .i64 cyh, .int .i64 wxl, .int .i64 wxh, .int .i64 wyl, .int .i64 wyh, ra]) ∧ hp.get 2 = some (.var [.int .i64 ra1.lo, .int .i64 ra1.hi, .int .i64 acc.lo, .int .i64 acc.hi]) ∧ hp.next = 3 ∧ lm.get 9 = some (0, [.vslice (a.map spC.enc), .vslice (b.map spC.enc)]) ∧
     e.get 2 = some (.int .i64 ↑n) ∧ e.get 3 = some (.ptr 0 0) ∧ e.get 4 = some (.ptr 1 0) ∧ e.get 9 = some (.lptr 9 0 0) ∧ e.get 11 = some (.ptr 2 0) ∧ e.get 12 = some (.int .i64 1) ∧ e.get 33 = some (.int .i64 1) ∧ e.get 48 = some vb ∧ e.get 49 = some (.int .i64 ↑n) ∧ e.get 50 = some (.int .i64 ↑i) ∧ i ≤ n) ?_ ?_
    ·refine ⟨_, _, _, b1, rfl, rfl, ?_, ?_, ?_, ?_, ?_, ?_, ?_, ?_, ?_, ?_, ?_, ?_, ?_, ?_, ?_, ?_⟩ <;> first | (simp only [hp_get, go_sem, *, Nat.reduceLT, Int.reduceEq, Int.reduceBEq, Int.reduceLE, Int.reduceLT, Nat.reduceAdd, Nat.reduceBEq, Nat.reduceEqDiff, reduceIte, Nat.reduceLeDiff, Nat.reduceMul, Nat.reduceSub, reduceCtorEq]; done) | simp [hp_get, go_sem, *, Nat.reduceLT, Int.reduceEq, Int.reduceBEq, Int.reduceLE, Int.reduceLT, Nat.reduceAdd, Nat.reduceBEq, Nat.reduceEqDiff, reduceIte, Nat.reduceLeDiff, Nat.reduceMul, Nat.reduceSub, reduceCtorEq]
    clear g0 g1 g2 l9 h2 h3 h4 h9 h11 h12 h33 h48 h49 h50 hin2
    rintro i F ⟨e, lm, ⟨qn, qm⟩, acc, rfl, hacc, g0, g1, g2, hqn, l9, h2, h3, h4, h9, h11, h12, h33, h48, h49, h50, hi⟩
    simp only at hqn
    subst hqn
    have HACC := Lib.hid hacc
    simp only [hp_get] at g0 g1 g2
    clear hacc
    refine or_else (i < n) (fun hlt => ?_) (fun hin2 => ?_)
    ·have hd : decide ((i : Int) < (n : Int)) = true := by simpa using hlt
     have hw := wrap_succ (m := n) hlt (by unfold maxL; omega)
     obtain ⟨p, hp⟩ := get_some (show i < sb1.length by rw [HLB.out]; exact hlt)
     have hpi := fun H => ivb i p hp H
     have hnx : (sb1.take (i + 1)).foldl hullS b1 = hullS acc p := by rw [take_next hp, List.foldl_append, ← HACC.out]; rfl
     have HNX := Lib.hid hnx
     clear hp hnx
     repeat' (first | (apply Z7 (o := ⟨some 9, .alloc 147, 0, _, _, none⟩); exact rfl; exact rfl; exact Z1; simp only [pM, pN]) | (apply W.drawQ (id := 1) (l1 := [8, 0, 1, 2, 3, 4, 5, 6, 7]) (l2 := [9, 10]); kernel_rfl; kernel_rfl; kernel_rfl; exact Z4) | (apply W.drawQ (id := 12) (l1 := [0, 1, 2, 3, 4, 5, 6, 7, 8, 9, 10, 11, 12, 13, 14, 15, 16]) (l2 := [17]); kernel_rfl; kernel_rfl; kernel_rfl; exact Z4) | (apply Z7 (o := ⟨some 18, .alloc 186, 0, _, _, none⟩); exact rfl; exact rfl; exact Z1; simp only [pM, pN]) | (apply W.drawQ (id := 21) (l1 := [11, 0, 1, 2, 3, 4, 5, 6, 7, 8, 9, 10]) (l2 := [12, 13]); kernel_rfl; kernel_rfl; kernel_rfl; exact Z4) | (apply W.drawQ (id := 28) (l1 := [0, 1, 2, 3, 4, 5, 6]) (l2 := []); kernel_rfl; kernel_rfl; kernel_rfl; exact Z4) | refine go1 ?_ | refine go2 (fun hh => ?_) (fun hh => ?_) | fail)
     refine ⟨hlt, _, _, _, hullS acc p, rfl, HNX.out.symm, ?_, ?_, ?_, ?_, ?_, ?_, ?_, ?_, ?_, ?_, ?_, ?_, ?_, ?_, ?_, by omega⟩
     all_goals first | (simp only [hp_get, hullS, go_sem, *, Nat.reduceLT, Int.reduceEq, Int.reduceBEq, Int.reduceLE, Int.reduceLT, Nat.reduceAdd, Nat.reduceBEq, Nat.reduceEqDiff, reduceIte, Nat.reduceLeDiff, Nat.reduceMul, Nat.reduceSub, reduceCtorEq]; done) | simp [hp_get, hullS, go_sem, *, Nat.reduceLT, Int.reduceEq, Int.reduceBEq, Int.reduceLE, Int.reduceLT, Nat.reduceAdd, Nat.reduceBEq, Nat.reduceEqDiff, reduceIte, Nat.reduceLeDiff, Nat.reduceMul, Nat.reduceSub, reduceCtorEq]
    have hd : decide ((i : Int) < (n : Int)) = false := by simpa using hin2
    have hacc := HACC.out
    rw [show i = n by omega, show n = sb1.length from HLB.out.symm, List.take_length] at hacc
    generalize acc = rb1 at *
    have HRB := Lib.hid hacc
    clear hacc HACC hi
    repeat' (first | (apply Z7 (o := ⟨some 9, .alloc 147, 0, _, _, none⟩); exact rfl; exact rfl; exact Z1; simp only [pM, pN]) | (apply W.drawQ (id := 1) (l1 := [8, 0, 1, 2, 3, 4, 5, 6, 7]) (l2 := [9, 10]); kernel_rfl; kernel_rfl; kernel_rfl; exact Z4) | (apply W.drawQ (id := 12) (l1 := [0, 1, 2, 3, 4, 5, 6, 7, 8, 9, 10, 11, 12, 13, 14, 15, 16]) (l2 := [17]); kernel_rfl; kernel_rfl; kernel_rfl; exact Z4) | (apply Z7 (o := ⟨some 18, .alloc 186, 0, _, _, none⟩); exact rfl; exact rfl; exact Z1; simp only [pM, pN]) | (apply W.drawQ (id := 21) (l1 := [11, 0, 1, 2, 3, 4, 5, 6, 7, 8, 9, 10]) (l2 := [12, 13]); kernel_rfl; kernel_rfl; kernel_rfl; exact Z4) | (apply W.drawQ (id := 28) (l1 := [0, 1, 2, 3, 4, 5, 6]) (l2 := []); kernel_rfl; kernel_rfl; kernel_rfl; exact Z4) | refine go1 ?_ | refine go2 (fun hh => ?_) (fun hh => ?_) | fail)
    refine W.unroll ?_
    repeat' (first | (apply U4; (focus (simp only [go_sem, *, Nat.reduceLT, Int.reduceEq, Int.reduceBEq, Int.reduceLE, Int.reduceLT, Nat.reduceAdd, Nat.reduceBEq, Nat.reduceEqDiff, reduceIte, Nat.reduceLeDiff, Nat.reduceMul, Nat.reduceSub, reduceCtorEq, Option.map_some, Option.map_none]; rfl)); exact rfl; simp only [pM, pN]) | (apply Z7 (o := ⟨some 9, .alloc 147, 0, _, _, none⟩); exact rfl; exact rfl; exact Z1; simp only [pM, pN]) | (apply W.drawQ (id := 1) (l1 := [8, 0, 1, 2, 3, 4, 5, 6, 7]) (l2 := [9, 10]); kernel_rfl; kernel_rfl; kernel_rfl; exact Z4) | (apply W.drawQ (id := 12) (l1 := [0, 1, 2, 3, 4, 5, 6, 7, 8, 9, 10, 11, 12, 13, 14, 15, 16]) (l2 := [17]); kernel_rfl; kernel_rfl; kernel_rfl; exact Z4) | (apply Z7 (o := ⟨some 18, .alloc 186, 0, _, _, none⟩); exact rfl; exact rfl; exact Z1; simp only [pM, pN]) | (apply W.drawQ (id := 21) (l1 := [11, 0, 1, 2, 3, 4, 5, 6, 7, 8, 9, 10]) (l2 := [12, 13]); kernel_rfl; kernel_rfl; kernel_rfl; exact Z4) | (apply W.drawQ (id := 28) (l1 := [0, 1, 2, 3, 4, 5, 6]) (l2 := []); kernel_rfl; kernel_rfl; kernel_rfl; exact Z4) | refine go1 ?_ | refine go2 (fun hh => ?_) (fun hh => ?_) | fail)
    have hall : rsAll off hs st ⟨ra1, rb1⟩ = rsTo off hs st ⟨ra1, rb1⟩ 8 := rfl
    rw [← HRA.out, ← HRB.out, hall]
    clear HRA HRB hall
    refine W.loopN 8 (fun k F => ∃ e lm hp, F = Fr.mk 57 false e lm hp [] none ∧ cellI 3 3 ((rsTo off hs st ⟨ra1, rb1⟩ k).map rsE) hp ∧ hp.get 0 = some (.var [ca, .int .i64 off]) ∧ hp.get 1 = some (.var [sa, .int .i64 cxl, .int .i64 cxh, .int .i64 cyl, .int .i64 cyh, .int .i64 wxl, .int .i64 wxh, .int .i64 wyl, .int .i64 wyh, ra]) ∧ hp.get 2 = some (.var [.int .i64 ra1.lo, .int .i64 ra1.hi, .int .i64 rb1.lo, .int .i64 rb1.hi]) ∧ e.get 3 = some (.ptr 0 0) ∧ e.get 4 = some (.ptr 1 0) ∧ e.get 11 = some (.ptr 2 0) ∧ e.get 15 = some (.ptr 3 0) ∧ e.get 73 = some (.int .i64 ↑k) ∧ k ≤ 8) ?_ ?_
    ·refine ⟨_, _, _, rfl, (show cellI 3 3 [] _ from ⟨by simp only; omega, .nilslice, by simp [hp_get, Mp.get_set], Blt.nil⟩), ?_, ?_, ?_, ?_, ?_, ?_, ?_, ?_, ?_⟩ <;> first | (simp only [hp_get, go_sem, *, Nat.reduceLT, Int.reduceEq, Int.reduceBEq, Int.reduceLE, Int.reduceLT, Nat.reduceAdd, Nat.reduceBEq, Nat.reduceEqDiff, reduceIte, Nat.reduceLeDiff, Nat.reduceMul, Nat.reduceSub, reduceCtorEq]; done) | simp [hp_get, go_sem, *, Nat.reduceLT, Int.reduceEq, Int.reduceBEq, Int.reduceLE, Int.reduceLT, Nat.reduceAdd, Nat.reduceBEq, Nat.reduceEqDiff, reduceIte, Nat.reduceLeDiff, Nat.reduceMul, Nat.reduceSub, reduceCtorEq]
    clear g0 g1 g2 l9 h2 h3 h4 h9 h11 h12 h33 h48 h49 h50 hin2
    rintro k F ⟨e, lm, ⟨qn, qm⟩, rfl, hcell, g0, g1, g2, h3, h4, h11, h15, h73, hk⟩
    refine or_else (k < 8) (fun hlt => ?_) (fun hk8 => ?_)
    ·have hd : decide ((k : Int) < 8) = true := by simp; omega
     have hw := wrap_succ (m := 8) hlt (by unfold maxL; omega)
     have hqn : 3 < qn := hcell.1
     have okc : OwnOk (fun (s : List Rs) h => cellI 3 3 (s.map rsE) h ∧ rsP st.length s) (cellO 3) := cell_ok 3 3 (fun s => s.map rsE) (rsP st.length)
     have i0 : cellI 3 3 ((rsTo off hs st ⟨ra1, rb1⟩ k).map rsE) ⟨qn, qm⟩ ∧ rsP st.length (rsTo off hs st ⟨ra1, rb1⟩ k) := ⟨hcell, rsTo_st k⟩
     have no0 : ¬ cellO 3 ⟨qn, qm⟩ 0 := cell_not hcell (by omega) g0
     have no1 : ¬ cellO 3 ⟨qn, qm⟩ 1 := cell_not hcell (by omega) g1
     have no2 : ¬ cellO 3 ⟨qn, qm⟩ 2 := cell_not hcell (by omega) g2
     have G0 := Lib.hid g0
     have G1 := Lib.hid g1
     have G2 := Lib.hid g2
     have HCELL := Lib.hid hcell
     have n0 : (qn == 0) = false := beq_eq_false_iff_ne.2 (by omega)
     have n1' : (qn == 1) = false := beq_eq_false_iff_ne.2 (by omega)
     have n2' : (qn == 2) = false := beq_eq_false_iff_ne.2 (by omega)
     simp only [hp_get] at g0 g1 g2
     clear hcell
     repeat' (first | (refine W.label ?_; simp only [tN, bN, eN, true_and]) | refine go1 ?_ | (apply U6; exact Z1; exact Z1; (focus (simp only [List.nil_append, List.append_nil]; first | exact C121 cID rfl _ _ _)); simp only [pM, pN, rR, rP]) | refine go2 (fun hh => ?_) (fun hh => ?_) | fail)
     have X2 : ∀ blk, HExt ⟨qn, qm⟩ (Heap.new ⟨qn + 1 + 1, ((qm.set qn (.var [.int .i64 0])).set qn (.var [.int .i64 ↑k])).set (qn + 1) (.var [.int .i64 ↑st.length])⟩ blk) := fun blk => by
      refine ⟨by simp only [Heap.new]; omega, fun id hid => ?_⟩
      simp only at hid
      rw [Heap.get_new, if_neg (by simp only; omega), hget_set, if_neg (by omega), hget_set, if_neg (by omega), hget_set, if_neg (by omega)]
      rfl
     have I2 := fun blk => (okc.ext _ _ _ i0 (X2 blk)).1
     have R2 := fun blk => okc.rel i0 (X2 blk)
     have F2 : ∀ blk id, qn ≤ id → ¬ cellO 3 (Heap.new ⟨qn + 1 + 1, ((qm.set qn (.var [.int .i64 0])).set qn (.var [.int .i64 ↑k])).set (qn + 1) (.var [.int .i64 ↑st.length])⟩ blk) id := fun blk id hid ho => by
      have := okc.lt _ _ id i0 ((okc.ext _ _ _ i0 (X2 blk)).2 id ho)
      simp only at this
      omega
     have N2 : ∀ blk, (Heap.new ⟨qn + 1 + 1, ((qm.set qn (.var [.int .i64 0])).set qn (.var [.int .i64 ↑k])).set (qn + 1) (.var [.int .i64 ↑st.length])⟩ blk).next = qn + 1 + 1 + 1 := fun _ => rfl
     have GA : ∀ blk, (Heap.new ⟨qn + 1 + 1, ((qm.set qn (.var [.int .i64 0])).set qn (.var [.int .i64 ↑k])).set (qn + 1) (.var [.int .i64 ↑st.length])⟩ blk).get qn = some (.var [.int .i64 ↑k]) := fun blk => by
      rw [Heap.get_new, if_neg (by simp only; omega), hget_set, if_neg (by omega), hget_set, if_pos rfl]
     have GB : ∀ blk, (Heap.new ⟨qn + 1 + 1, ((qm.set qn (.var [.int .i64 0])).set qn (.var [.int .i64 ↑k])).set (qn + 1) (.var [.int .i64 ↑st.length])⟩ blk).get (qn + 1) = some (.var [.int .i64 ↑st.length]) := fun blk => by
      rw [Heap.get_new, if_neg (by simp only; omega), hget_set, if_pos rfl]
     have GL : ∀ blk, (Heap.new ⟨qn + 1 + 1, ((qm.set qn (.var [.int .i64 0])).set qn (.var [.int .i64 ↑k])).set (qn + 1) (.var [.int .i64 ↑st.length])⟩ blk).get (qn + 1 + 1) = some blk := fun blk => by
      rw [Heap.get_new, if_pos rfl]
     apply W.rangeEnds (R := stU (fun (s : List Rs) h => cellI 3 3 (s.map rsE) h ∧ rsP st.length s) (fun _ _ => False) (cellO 3) (fun id => id = qn + 1 + 1) _ (foldS (stepR off hs st ⟨ra1, rb1⟩ k) (ordsL st.length st.length []) (rsTo off hs st ⟨ra1, rb1⟩ k)))
     ·exact Z1
     ·have hR : ∀ (o : List Nat) (rem : List (List Nat)) (s s' : List Rs), s.length + (o :: rem).length ≤ 24 * (k + 1) → stepR off hs st ⟨ra1, rb1⟩ k o s = (s', true) → s'.length + rem.length ≤ 24 * (k + 1) := by
       intro o rem s s' h e
       unfold stepR at e
       simp only [Prod.mk.injEq, and_true] at e
       subst e
       simp only [List.length_cons] at h
       cases rsGo off k hs st o ⟨ra1, rb1⟩ st.length with
       | none => simp only; omega
       | some r => simp only [List.length_append, List.length_cons, List.length_nil]; omega
      have hr0 : (rsTo off hs st ⟨ra1, rb1⟩ k).length + (ordsL st.length st.length []).length ≤ 24 * (k + 1) := by
       have q1 := rsTo_len (off := off) (hs := hs) (st := st) (b := ⟨ra1, rb1⟩) hn4 k
       have q2 := ords_small hn4
       omega
      refine G167 (fun (s : List Rs) h => cellI 3 3 (s.map rsE) h ∧ rsP st.length s) (fun _ _ => False) (cellO 3) (fun id => id = qn + 1 + 1) okc (stepR off hs st ⟨ra1, rb1⟩ k) (fun rem s => s.length + rem.length ≤ 24 * (k + 1)) hR cID rfl rfl rfl rfl st.length (qn + 1 + 1) (qn + 1) (by omega) _ (rsTo off hs st ⟨ra1, rb1⟩ k) (GB _) (by rw [N2]; omega) (F2 _ _ (by omega)) (I2 _) hr0 ?_
      intro s o rem a' h1' hrem i3 kx ho hltn hB hF
      have kL := kx.2 (qn + 1 + 1) (by rw [N2]; omega) (F2 _ _ (by omega))
      have hL := kL.1.trans (GL _)
      have fL := kL.2
      have lL1 : qn + 1 + 1 < h1'.next := Nat.lt_of_lt_of_le (by rw [N2]; omega) kx.1
      have rel1 := (R2 _).trans kx
      have w0 := (rel1.2 0 (by simp only; omega) no0).1.trans G0.out
      have w1 := (rel1.2 1 (by simp only; omega) no1).1.trans G1.out
      have w2 := (rel1.2 2 (by simp only; omega) no2).1.trans G2.out
      have wq := (kx.2 qn (by rw [N2]; omega) (F2 _ _ (Nat.le_refl _))).1.trans (GA _)
      obtain ⟨er, hE, hL⟩ : ∃ er, er = _ ∧ h1'.get (qn + 1 + 1) = some (.loop 57 er _ _ _ .ready none) := ⟨_, rfl, hL⟩
      have r3 : er.get 3 = some (.ptr 0 0) := by rw [hE, Mp.get_map]; simp [go_sem, *, noBox]
      have r4 : er.get 4 = some (.ptr 1 0) := by rw [hE, Mp.get_map]; simp [go_sem, *, noBox]
      have r11 : er.get 11 = some (.ptr 2 0) := by rw [hE, Mp.get_map]; simp [go_sem, *, noBox]
      have r15 : er.get 15 = some (.ptr 3 0) := by rw [hE, Mp.get_map]; simp [go_sem, *, noBox]
      have r16 : er.get 16 = some (.ptr qn 0) := by rw [hE, Mp.get_map]; simp [go_sem, *, noBox]
      obtain ⟨id, rfl, hrow, hid, hne⟩ : ∃ id, a' = .row id 0 st.length ∧ h1'.get id = some (.rw 1 (natsV o)) ∧ id < h1'.next ∧ natsV o ≠ [] := by
       rcases hB with ⟨_, e⟩ | ⟨id, q1, q2, q3, q4⟩
       ·have := congrArg List.length e
        rw [natsV_len] at this
        simp at this
        rw [this] at ho
        simp at ho
        omega
       ·exact ⟨id, by rw [natsV_len, ho] at q1; exact q1, q2, q3, q4⟩
      have hidL : id ≠ qn + 1 + 1 := fun e => by rw [e, hL] at hrow; cases hrow
      have HHL := Lib.hid hL
      have HREM := Lib.hid hrem
      have HI3 := Lib.hid i3
      have HFL := Lib.hid fL
      refine round_ok' hL rfl ?_
      clear hE hL kL fL rel1 i3 kx X2 I2 R2 F2 N2 GA GB GL h3 h4 h11 h15 h73 g0 g1 g2 hF hB hrem hR hr0 n0 n1' n2' i0
      repeat' (first | refine goS ?_ | refine go2 (fun hh => ?_) (fun hh => ?_) | fail)
      rintro ⟨zn, zm⟩ hzn hzg hzL
      obtain ⟨t, tn, ho1, _, _⟩ := of_tv hlt
      have k96 : ∀ h, Cl (dX cID) 96 [.int .i64 ↑k] h (.ret (.iface t (.int .i64 tn)) h none) := fun h => by
       have := K96 (X := dX cID) rfl k h
       rw [ho1] at this
       exact this
      have q0 := (hzg 0 (by omega)).trans w0
      have q1 := (hzg 1 (by omega)).trans w1
      have q2 := (hzg 2 (by omega)).trans w2
      have qq := (hzg qn (by omega)).trans wq
      have qi := (hzg id hidL).trans hrow
      have hsee : SeeV ⟨zn, zm⟩ intC (.row id 0 st.length) (o.map fun k : Nat => (k : Int)) := by
       have hb : Blt ⟨zn, zm⟩ (.row id 0 st.length) 1 (natsV o) := .inr ⟨id, by rw [natsV_len, ho], qi, by rw [hzn]; exact hid, hne⟩
       rw [natsV_ints] at hb
       exact ⟨_, hb.view (enc_pur intC _), slV_slN (by rw [List.length_map, ho]; unfold maxL; omega)⟩
      have hnat : natsOf (o.map fun k : Nat => (k : Int)) = o := by unfold natsOf; rw [List.map_map]; exact List.map_id' o
      have hokO : okOrd st.length (o.map fun k : Nat => (k : Int)) = true := by
       unfold okOrd
       rw [List.all_map, List.all_eq_true]
       intro x hx
       have := hltn x hx
       simp only [Function.comp, Bool.and_eq_true, decide_eq_true_eq]
       omega
      have k122 := K122 (X := dX cID) rfl ca sa (.row id 0 st.length) hs st (o.map fun k : Nat => (k : Int)) off ⟨ra1, rb1⟩ hlt HC.out HL.out ⟨zn, zm⟩ hsee ⟨by omega, hn4, hhs, by rw [List.length_map, ho], hokO⟩
      rw [hnat, ho1] at k122
      simp only at k122
      have bi := rnd_in okc HI3.out hzn hzg HFL.out
      have bg : ∀ s4 h', _ → Rel (cellO 3) ⟨zn, zm⟩ h' → _ := fun s4 h' => back_go okc (s4 := s4) (h' := h') HI3.out hzn hzg HHL.out HFL.out lL1
      have lz : qn + 1 + 1 < zn := by rw [show zn = h1'.next from hzn]; exact lL1
      have HBI := Lib.hid bi
      have HBG := Lib.hid bg
      have HZL := Lib.hid hzL
      simp only [hp_get] at q0 q1 q2 qq qi
      clear hzn hzg hzL w0 w1 w2 wq hrow bi bg hsee hnat hokO ho hltn hne hid ho1
      cases hgo : rsGo off k hs st o ⟨ra1, rb1⟩ st.length with
      | none =>
       rw [hgo] at k122
       simp only [rsT] at k122
       have HK122 := Lib.hid k122
       have HGO := Lib.hid hgo
       clear k122 hgo
       repeat' (first | (apply Z7 (o := ⟨some 9, .alloc 147, 0, _, _, none⟩); exact rfl; exact rfl; exact Z1; simp only [pM, pN]) | (apply W.drawQ (id := 1) (l1 := [8, 0, 1, 2, 3, 4, 5, 6, 7]) (l2 := [9, 10]); kernel_rfl; kernel_rfl; kernel_rfl; exact Z4) | (apply W.drawQ (id := 12) (l1 := [0, 1, 2, 3, 4, 5, 6, 7, 8, 9, 10, 11, 12, 13, 14, 15, 16]) (l2 := [17]); kernel_rfl; kernel_rfl; kernel_rfl; exact Z4) | (apply Z7 (o := ⟨some 18, .alloc 186, 0, _, _, none⟩); exact rfl; exact rfl; exact Z1; simp only [pM, pN]) | (apply W.drawQ (id := 21) (l1 := [11, 0, 1, 2, 3, 4, 5, 6, 7, 8, 9, 10]) (l2 := [12, 13]); kernel_rfl; kernel_rfl; kernel_rfl; exact Z4) | (apply W.drawQ (id := 28) (l1 := [0, 1, 2, 3, 4, 5, 6]) (l2 := []); kernel_rfl; kernel_rfl; kernel_rfl; exact Z4) | refine go1 ?_ | (apply U6; exact Z1; exact Z1; (focus (simp only [List.nil_append, List.append_nil]; first | exact k96 _ | exact HK122.out)); simp only [pM, pN, rR, rP]) | refine go2 (fun hh => ?_) (fun hh => ?_) | fail)
       rw [roundQ_norm]
       simp only [endV, HZL.out]
       have := HBG.out s _ HBI.out.1 (Rel.refl _ _)
       exact stR_go (by simp [stepR, HGO.out]) this.1 this.2
      | some r =>
       rw [hgo] at k122
       simp only [rsT, rsE] at k122
       have HK122 := Lib.hid k122
       have HGO := Lib.hid hgo
       have ro := (slN_is (r.st.map ptC.enc)).out
       have rone := (slN_is (r.st.map ptC.enc)).tup
       obtain ⟨⟨hb3, v, gv, bv⟩, hsl⟩ := HBI.out.1
       have HBV := Lib.hid bv
       have GV := Lib.hid gv
       have HSP := Lib.hid hsl
       have ov := bv.out
       have hvn : ∀ id vs, (Heap.mk zn zm).get id = some (.var vs) → ∀ off n, v ≠ .row id off n := fun id vs hg => bv.ne_row (fun z r => by rw [hg]; simp)
       have HVN := Lib.hid hvn
       have hll : s.length + (0 + 1) ≤ most := by have := HREM.out; simp only [List.length_cons] at this; unfold most; omega
       simp only [hp_get] at gv
       clear k122 hgo bv hvn hsl
       repeat' (first | (apply Z7 (o := ⟨some 9, .alloc 147, 0, _, _, none⟩); exact rfl; exact rfl; exact Z1; simp only [pM, pN]) | (apply W.drawQ (id := 1) (l1 := [8, 0, 1, 2, 3, 4, 5, 6, 7]) (l2 := [9, 10]); kernel_rfl; kernel_rfl; kernel_rfl; exact Z4) | (apply W.drawQ (id := 12) (l1 := [0, 1, 2, 3, 4, 5, 6, 7, 8, 9, 10, 11, 12, 13, 14, 15, 16]) (l2 := [17]); kernel_rfl; kernel_rfl; kernel_rfl; exact Z4) | (apply Z7 (o := ⟨some 18, .alloc 186, 0, _, _, none⟩); exact rfl; exact rfl; exact Z1; simp only [pM, pN]) | (apply W.drawQ (id := 21) (l1 := [11, 0, 1, 2, 3, 4, 5, 6, 7, 8, 9, 10]) (l2 := [12, 13]); kernel_rfl; kernel_rfl; kernel_rfl; exact Z4) | (apply W.drawQ (id := 28) (l1 := [0, 1, 2, 3, 4, 5, 6]) (l2 := []); kernel_rfl; kernel_rfl; kernel_rfl; exact Z4) | (apply WO1.appendE (t := 182) (u := 182) (e := 186) (e' := 186) (sz := 3) (tl := []) (hb := HBV.out); exact Z1; exact rfl; exact Z2; exact Z2; exact Z2; (focus (exact ty_row182)); exact Z1; (focus (intro v hv; simp at hv; subst hv; rfl)); (focus (simp only [List.length_map, List.length_cons, List.length_nil]; exact hll)); (focus (simp)); (intro v1 hp1 hB1 ho1 hK1 hE1; have hc1 := hB1.cells; have ht1 := hB1.tup; simp only [AV.cells] at hc1; simp only [isTuple] at ht1; obtain ⟨n1, m1⟩ := hp1; have hg3 := (hK1.2 3 hb3 (HVN.out 3 _ GV.out)).trans GV.out; simp only [hp_get] at hg3; have HG3 := Lib.hid hg3; have HK1 := Lib.hid hK1; have HB1 := Lib.hid hB1; have HE1 := Lib.hid hE1; clear hK1 hB1 hE1; simp only [pM, pN])) | refine go1 ?_ | (apply U6; exact Z1; exact Z1; (focus (simp only [List.nil_append, List.append_nil]; first | exact k96 _ | exact HK122.out)); simp only [pM, pN, rR, rP]) | refine go2 (fun hh => ?_) (fun hh => ?_) | fail)
       rw [roundQ_norm]
       have kL := (HK1.out.2 (qn + 1 + 1) lz (HBV.out.ne_row (fun z r => by rw [HZL.out]; simp))).trans HZL.out
       simp only [hp_get] at kL
       have d3 : ¬ 3 = qn + 1 + 1 := by omega
       simp only [endV, hp_get, Mp.get_set, d3, if_false, kL]
       refine stR_goR (s := s ++ [r]) (by simp [stepR, HGO.out]) (HBG.out (s ++ [r]) _ ⟨⟨?_, v1, ?_, ?_⟩, ?_⟩ ⟨HK1.out.1, fun id hid ho => ⟨?_, ?_⟩⟩)
       ·exact Nat.lt_of_lt_of_le hb3 HK1.out.1
       ·simp [hp_get, Mp.get_set]
       ·have hne3 : ∀ z r, (Heap.mk n1 m1).get 3 ≠ some (.rw z r) := fun z r e => by rw [hp_get, HG3.out] at e; cases e
        rw [show (s ++ [r]).map rsE = s.map rsE ++ [.agg [slN (r.st.map ptC.enc), .int .i64 r.n, .int .i64 r.w]] by simp [rsE]]
        exact HB1.out.putv (id := 3) (bl := .var [v1]) hne3
       ·intro x hx
        rcases List.mem_append.1 hx with q | q
        ·exact HSP.out x q
        ·simp only [List.mem_singleton] at q
         subst q
         exact rsGo_len HGO.out
       ·have e3 : ¬ 3 = id := fun e => ho (.inl e.symm)
        rw [hp_get, Mp.get_set, if_neg e3]
        exact HK1.out.2 id hid (fun off n e => ho (.inr ⟨off, n, by rw [GV.out, e]⟩))
       ·rintro (q | ⟨off', n', q⟩)
        ·exact ho (.inl q)
        ·rw [hp_get, Mp.get_set, if_pos rfl] at q
         cases q
         have := HE1.out
         cases this
         exact absurd hid (Nat.lt_irrefl _)
     ·intro r hcl hR
      rcases stU_or hR with ⟨s4, h', ex, rfl, i4, kr⟩ | ⟨s4, h', ex, rfl, d4, ke⟩
      ·have kL := kr.2 (qn + 1 + 1) (by rw [N2]; omega) (F2 _ _ (by omega))
       have hL := kL.1.trans (GL _)
       have hfin := fun bl => fin_go okc (bl := bl) (h0 := ⟨qn, qm⟩) (L1 := qn + 1 + 1) (by simp only; omega) ((R2 _).trans kr) i4 kL.2
       refine W.rangeNorm rfl ?_ hcl hL (fun e => by cases e) ?_
       ·first | exact Z2 | exact Z1
       clear hcl hL
       generalize hput : Heap.put h' _ _ = hz
       have hf : (cellI 3 3 (s4.map rsE) hz ∧ rsP st.length s4) ∧ Rel (cellO 3) ⟨qn, qm⟩ hz := by rw [← hput]; exact hfin _
       have hs4 : s4 = rsTo off hs st ⟨ra1, rb1⟩ (k + 1) := by
        rw [foldR] at ex
        rw [rsTo_succ]
        exact (congrArg Prod.fst ex).symm
       obtain ⟨zn, zm⟩ := hz
       have z0 := (hf.2.2 0 (by simp only; omega) no0).1.trans G0.out
       have z1 := (hf.2.2 1 (by simp only; omega) no1).1.trans G1.out
       have z2 := (hf.2.2 2 (by simp only; omega) no2).1.trans G2.out
       have i5 := hf.1.1
       rw [hs4] at i5
       have HI5 := Lib.hid i5
       simp only [hp_get] at z0 z1 z2
       clear hput hfin hf kL kr ex i4 hR X2 I2 R2 F2 N2 GA GB GL hs4 i5 i0 g0 g1 g2 n0 n1' n2'
       simp only [bN, tN]
       repeat' (first | (refine W.label ?_; simp only [tN, bN, eN, true_and]) | refine go1 ?_ | refine go2 (fun hh => ?_) (fun hh => ?_) | fail)
       refine ⟨hlt, _, _, _, rfl, HI5.out, ?_, ?_, ?_, ?_, ?_, ?_, ?_, ?_, by omega⟩
       all_goals first | (simp only [hp_get, go_sem, *, Nat.reduceLT, Int.reduceEq, Int.reduceBEq, Int.reduceLE, Int.reduceLT, Nat.reduceAdd, Nat.reduceBEq, Nat.reduceEqDiff, reduceIte, Nat.reduceLeDiff, Nat.reduceMul, Nat.reduceSub, reduceCtorEq]; done) | simp [hp_get, go_sem, *, Nat.reduceLT, Int.reduceEq, Int.reduceBEq, Int.reduceLE, Int.reduceLT, Nat.reduceAdd, Nat.reduceBEq, Nat.reduceEqDiff, reduceIte, Nat.reduceLeDiff, Nat.reduceMul, Nat.reduceSub, reduceCtorEq]
      ·exact d4.elim
    ·have hd : decide ((k : Int) < 8) = false := by simp; omega
     obtain rfl : k = 8 := by omega
     have hst8 : ∀ r ∈ rsTo off hs st ⟨ra1, rb1⟩ 8, r.st.length ≤ maxL := fun r hr => by rw [rsTo_st 8 r hr]; unfold maxL; omega
     have hl8 : (rsTo off hs st ⟨ra1, rb1⟩ 8).length ≤ maxL := by
      have := rsTo_len (off := off) (hs := hs) (st := st) (b := ⟨ra1, rb1⟩) hn4 8
      unfold maxL
      omega
     generalize rsTo off hs st ⟨ra1, rb1⟩ 8 = all at *
     obtain ⟨hb3, v, gv, bv⟩ := hcell
     have k123 := C123 cID rfl rfl v all ⟨qn, qm⟩ bv hl8 hst8
     have ov := bv.out
     have tv := bv.tup
     simp only [hp_get] at gv g0 g1 g2
     simp only [rsE] at k123
     generalize hbt : bestTo all = bt at *
     have ro := (slN_is (bt.st.map ptC.enc)).out
     have rone := (slN_is (bt.st.map ptC.enc)).tup
     have hfz := fun H => (slN_is (bt.st.map ptC.enc)).frz2 H
     have HFZ := Lib.hid hfz
     clear bv hl8 hst8 hbt hfz hk8 hk
     cases all with
     | nil =>
      have hgt : decide ((([] : List Rs).length : Int) > 0) = false := rfl
      rw [hgt] at k123
      simp only [if_true]
      have HK123 := Lib.hid k123
      clear k123 hgt
      repeat' (first | (apply Z7 (o := ⟨some 9, .alloc 147, 0, _, _, none⟩); exact rfl; exact rfl; exact Z1; simp only [pM, pN]) | (apply W.drawQ (id := 1) (l1 := [8, 0, 1, 2, 3, 4, 5, 6, 7]) (l2 := [9, 10]); kernel_rfl; kernel_rfl; kernel_rfl; exact Z4) | (apply W.drawQ (id := 12) (l1 := [0, 1, 2, 3, 4, 5, 6, 7, 8, 9, 10, 11, 12, 13, 14, 15, 16]) (l2 := [17]); kernel_rfl; kernel_rfl; kernel_rfl; exact Z4) | (apply Z7 (o := ⟨some 18, .alloc 186, 0, _, _, none⟩); exact rfl; exact rfl; exact Z1; simp only [pM, pN]) | (apply W.drawQ (id := 21) (l1 := [11, 0, 1, 2, 3, 4, 5, 6, 7, 8, 9, 10]) (l2 := [12, 13]); kernel_rfl; kernel_rfl; kernel_rfl; exact Z4) | (apply W.drawQ (id := 28) (l1 := [0, 1, 2, 3, 4, 5, 6]) (l2 := []); kernel_rfl; kernel_rfl; kernel_rfl; exact Z4) | refine go1 ?_ | (apply U6; exact Z1; exact Z1; (focus (simp only [List.nil_append, List.append_nil]; first | exact HK123.out)); simp only [pM, pN, rR, rP]) | refine go2 (fun hh => ?_) (fun hh => ?_) | fail)
      all_goals (simp only [resV_def (X := dX cID) Tryz.func57, Tryz.results57]; first | exact J5 | refine J6 ?_)
     | cons r0 rl =>
      have hgt : decide (((r0 :: rl).length : Int) > 0) = true := by simp
      rw [hgt] at k123
      rw [if_neg (by simp)]
      have HK123 := Lib.hid k123
      clear k123 hgt
      repeat' (first | (apply Z7 (o := ⟨some 9, .alloc 147, 0, _, _, none⟩); exact rfl; exact rfl; exact Z1; simp only [pM, pN]) | (apply W.drawQ (id := 1) (l1 := [8, 0, 1, 2, 3, 4, 5, 6, 7]) (l2 := [9, 10]); kernel_rfl; kernel_rfl; kernel_rfl; exact Z4) | (apply W.drawQ (id := 12) (l1 := [0, 1, 2, 3, 4, 5, 6, 7, 8, 9, 10, 11, 12, 13, 14, 15, 16]) (l2 := [17]); kernel_rfl; kernel_rfl; kernel_rfl; exact Z4) | (apply Z7 (o := ⟨some 18, .alloc 186, 0, _, _, none⟩); exact rfl; exact rfl; exact Z1; simp only [pM, pN]) | (apply W.drawQ (id := 21) (l1 := [11, 0, 1, 2, 3, 4, 5, 6, 7, 8, 9, 10]) (l2 := [12, 13]); kernel_rfl; kernel_rfl; kernel_rfl; exact Z4) | (apply W.drawQ (id := 28) (l1 := [0, 1, 2, 3, 4, 5, 6]) (l2 := []); kernel_rfl; kernel_rfl; kernel_rfl; exact Z4) | refine go1 ?_ | (apply U6; exact Z1; exact Z1; (focus (simp only [List.nil_append, List.append_nil]; first | exact HK123.out)); simp only [pM, pN, rR, rP]) | refine go2 (fun hh => ?_) (fun hh => ?_) | fail)
      all_goals (simp only [resV_def (X := dX cID) Tryz.func57, Tryz.results57]; first | exact J5 | refine J6 ?_)
      all_goals simp only [HFZ.out, isRet_ret]
  ·cases h
 ·cases h
end Go.AM
namespace Go.AM
open Go
variable [Keep]
def bkTo (g : Pt) (t : Nat) : Nat → Pt
 | 0 => g
 | k + 1 => if turnR (turnR g ((k : Nat) : Int)) ((t : Nat) : Int) = g then turnR g ((k : Nat) : Int) else bkTo g t k
theorem lin_back {t : Nat} (ht : t < 8) (p : Pt) : lin t (lin (backN t) p) = p := by
 obtain ⟨x, y⟩ := p
 rcases lt8 ht with rfl | rfl | rfl | rfl | rfl | rfl | rfl | rfl <;> simp [backN, lin]
theorem lin_inj {t : Nat} (ht : t < 8) {p q : Pt} (h : lin t p = lin t q) : p = q := by
 obtain ⟨x, y⟩ := p
 obtain ⟨a, b⟩ := q
 rcases lt8 ht with rfl | rfl | rfl | rfl | rfl | rfl | rfl | rfl <;> simp [lin] at h ⊢ <;> omega
theorem turnR_lin {t : Nat} (ht : t < 8) {p : Pt} (hp : okPt 80 p = true) : turnR p (t : Nat) = lin t p := by
 rw [← turnP_R (by simp only [inB, Bool.and_eq_true, decide_eq_true_eq]; omega), turn_lin ht hp]
theorem bk_to {t : Nat} (ht : t < 8) {g : Pt} (hg : okPt 80 g = true) : ∀ k, k ≤ 8 → backN t < k → bkTo g t k = lin (backN t) g := by
 intro k
 induction k with
 | zero => intro _ h; omega
 | succ k ih =>
  intro hk hb
  have e1 : turnR g ((k : Nat) : Int) = lin k g := turnR_lin (by omega) hg
  have e2 : turnR (lin k g) ((t : Nat) : Int) = lin t (lin k g) := turnR_lin ht (lin_ok (by omega) hg)
  unfold bkTo
  rw [e1, e2]
  by_cases h : lin t (lin k g) = g
  ·rw [if_pos h]
   exact lin_inj ht (h.trans (lin_back ht g).symm)
  ·rw [if_neg h]
   have : backN t ≠ k := fun e => h (by rw [← e]; exact lin_back ht g)
   exact ih (by omega) (by omega)
theorem bk_is {t : Nat} (ht : t < 8) {g : Pt} (hg : okPt 80 g = true) : bkTo g t 8 = turnP (backN t : Nat) g := by
 rw [bk_to ht hg 8 (Nat.le_refl _) (back_lt ht), turn_lin (back_lt ht) hg]
def rfS (off g : Int) (b : Sp) : Sp := ⟨maxV (-20) (rsX off g b).lo, minV 20 (rsX off g b).hi⟩
def rfPt (off : Int) (b : Bx) (g s : Pt) : Pt := ⟨clampV s.x (rfS off g.x b.x), clampV s.y (rfS off g.y b.y)⟩
def rfOk (off : Int) (b : Bx) (g : Pt) : Bool := !(decide ((rfS off g.x b.x).lo > (rfS off g.x b.x).hi) || decide ((rfS off g.y b.y).lo > (rfS off g.y b.y).hi))
def rfGo (off : Int) (t : Nat) (hs st : List Pt) (o : List Nat) (b : Bx) : Nat → Option (List Pt)
 | 0 => some st
 | i + 1 => match rfGo off t hs st o b i with
  | none => none
  | some r => if rfOk off b (bkTo (hs.getD i ⟨0, 0⟩) t 8) then some (r.set (o.getD i 0) (rfPt off b (bkTo (hs.getD i ⟨0, 0⟩) t 8) (st.getD (o.getD i 0) ⟨0, 0⟩))) else none
theorem max_comm (a b : Int) : maxV a b = maxV b a := by unfold maxV; split <;> split <;> omega
theorem min_comm (a b : Int) : minV a b = minV b a := by unfold minV; split <;> split <;> omega
theorem rfS_ok (off g : Int) (b : Sp) : decide ((rfS off g b).lo > (rfS off g b).hi) = !intoB (rsX off g b) := by
 unfold rfS intoB
 rw [max_comm (-20), min_comm 20]
 simp only
 rw [Bool.eq_iff_iff]
 simp
theorem rfS_clamp (off g n : Int) (b : Sp) (h : intoB (rsX off g b) = true) : clampV n (rfS off g b) = intoV n (rsX off g b) := by
 unfold intoB at h
 unfold rfS clampV intoV
 rw [max_comm (-20), min_comm 20]
 simp only [decide_eq_true_eq] at h ⊢
 generalize maxV (rsX off g b).lo (-20) = x at *
 generalize minV (rsX off g b).hi 20 = y at *
 unfold maxV minV
 split <;> split <;> (try split) <;> (try split) <;> omega
theorem rf_ok (off : Int) (b : Bx) (g : Pt) : rfOk off b g = rsOk off b g := by
 unfold rfOk rsOk
 rw [rfS_ok, rfS_ok]
 cases intoB (rsX off g.x b.x) <;> cases intoB (rsX off g.y b.y) <;> rfl
theorem rf_pt (off : Int) (b : Bx) (g s : Pt) (h : rsOk off b g = true) : rfPt off b g s = rsPt off b g s := by
 unfold rsOk at h
 simp only [Bool.and_eq_true] at h
 unfold rfPt rsPt
 rw [rfS_clamp _ _ _ _ h.1, rfS_clamp _ _ _ _ h.2]
theorem rsAdd_st (r : Rs) (v : Nat) (p s : Pt) : (rsAdd r v p s).st = r.st.set v p := by
 unfold rsAdd
 split <;> rfl
theorem rf_rs {off : Int} {t : Nat} (ht : t < 8) {hs st : List Pt} (hh : ∀ p ∈ hs, okPt 80 p = true) (o : List Nat) (b : Bx) : ∀ i, rfGo off t hs st o b i = (rsGo off t hs st o b i).map (·.st) := by
 intro i
 induction i with
 | zero => rfl
 | succ i ih =>
  have hg : okPt 80 (hs.getD i ⟨0, 0⟩) = true := by
   rw [List.getD]
   cases h : hs[i]? with
   | none => exact ok80.2 (by simp)
   | some p => exact hh p (List.mem_of_getElem? h)
  unfold rfGo rsGo
  rw [ih]
  cases rsGo off t hs st o b i with
  | none => rfl
  | some r =>
   simp only [Option.map_some, bk_is ht hg, rf_ok]
   have e : rsG t hs i = turnP (backN t : Nat) (hs.getD i ⟨0, 0⟩) := rfl
   rw [e]
   cases h : rsOk off b (turnP (backN t : Nat) (hs.getD i ⟨0, 0⟩)) with
   | false => rfl
   | true => simp only [if_true, Option.map_some, rsAdd_st, rf_pt off b _ _ h]
end Go.AM
namespace Go.AM
open Go
variable [Keep]
def dN (p s : Pt) : Int := if p = s then 0 else 1
def dW (p s : Pt) : Int := maxV (p.x - s.x) (s.x - p.x) + maxV (p.y - s.y) (s.y - p.y)
def sumTo (f : Nat → Int) : Nat → Int
 | 0 => 0
 | k + 1 => sumTo f k + f k
theorem sum_set {f f' : Nat → Int} {v : Nat} (h : ∀ j, j ≠ v → f' j = f j) : ∀ n, sumTo f' n = sumTo f n + (if v < n then f' v - f v else 0) := by
 intro n
 induction n with
 | zero => simp [sumTo]
 | succ n ih =>
  unfold sumTo
  rw [ih]
  by_cases e : n = v
  ·subst e
   rw [if_neg (by omega), if_pos (by omega)]
   omega
  ·rw [h n e]
   by_cases q : v < n
   ·rw [if_pos q, if_pos (by omega)]; omega
   ·rw [if_neg q, if_neg (by omega)]; omega
theorem dN_b (p s : Pt) : 0 ≤ dN p s ∧ dN p s ≤ 1 := by unfold dN; split <;> omega
theorem dW_b {p s : Pt} (h1 : okPt 80 p = true) (h2 : okPt 80 s = true) : 0 ≤ dW p s ∧ dW p s ≤ 320 := by
 rw [ok80] at h1 h2
 unfold dW maxV
 split <;> split <;> omega
theorem sum_b {f : Nat → Int} {m : Int} (h : ∀ j, 0 ≤ f j ∧ f j ≤ m) : ∀ n : Nat, 0 ≤ sumTo f n ∧ sumTo f n ≤ n * m := by
 intro n
 induction n with
 | zero => simp [sumTo]
 | succ n ih =>
  have := h n
  unfold sumTo
  have e : ((n + 1 : Nat) : Int) * m = n * m + m := by rw [Int.natCast_add, Int.add_mul]; simp
  rw [e]
  omega
def okL (l : List Pt) : Prop := ∀ j, okPt 80 (l.getD j ⟨0, 0⟩) = true
theorem many_sum {a b : List Pt} (ha : okL a) (hb : okL b) : ∀ k, k ≤ 1000 → manyTo a b k = (sumTo (fun j => dN (a.getD j ⟨0, 0⟩) (b.getD j ⟨0, 0⟩)) k, sumTo (fun j => dW (a.getD j ⟨0, 0⟩) (b.getD j ⟨0, 0⟩)) k) := by
 intro k
 induction k with
 | zero => intro _; rfl
 | succ k ih =>
  intro hk
  have b1 := sum_b (f := fun j => dN (a.getD j ⟨0, 0⟩) (b.getD j ⟨0, 0⟩)) (fun j => dN_b _ _) k
  have b2 := sum_b (f := fun j => dW (a.getD j ⟨0, 0⟩) (b.getD j ⟨0, 0⟩)) (fun j => dW_b (ha j) (hb j)) k
  simp only [manyTo, ih (by omega), sumTo]
  generalize sumTo (fun j => dN (a.getD j ⟨0, 0⟩) (b.getD j ⟨0, 0⟩)) k = N at *
  generalize sumTo (fun j => dW (a.getD j ⟨0, 0⟩) (b.getD j ⟨0, 0⟩)) k = W at *
  have h1 := ha k
  have h2 := hb k
  rw [ok80] at h1 h2
  generalize a.getD k ⟨0, 0⟩ = p at *
  generalize b.getD k ⟨0, 0⟩ = s at *
  have hx : 0 ≤ maxV (p.x - s.x) (s.x - p.x) ∧ maxV (p.x - s.x) (s.x - p.x) ≤ 160 := by unfold maxV; split <;> omega
  have hy : 0 ≤ maxV (p.y - s.y) (s.y - p.y) ∧ maxV (p.y - s.y) (s.y - p.y) ≤ 160 := by unfold maxV; split <;> omega
  have e1 : w64 (p.x - s.x) = p.x - s.x := wrap_small (by omega) (by omega)
  have e2 : w64 (s.x - p.x) = s.x - p.x := wrap_small (by omega) (by omega)
  have e3 : w64 (p.y - s.y) = p.y - s.y := wrap_small (by omega) (by omega)
  have e4 : w64 (s.y - p.y) = s.y - p.y := wrap_small (by omega) (by omega)
  rw [e1, e2, e3, e4]
  have e5 : w64 (N + 1) = N + 1 := wrap_small (by omega) (by omega)
  unfold dW dN
  generalize maxV (p.x - s.x) (s.x - p.x) = mx at *
  generalize maxV (p.y - s.y) (s.y - p.y) = my at *
  have e6 : w64 (W + mx) = W + mx := wrap_small (by omega) (by omega)
  have e7 : w64 (W + mx + my) = W + mx + my := wrap_small (by omega) (by omega)
  rw [e5, e6, e7]
  congr 1
  ·split <;> omega
  ·omega
theorem into_b {n : Int} {s : Sp} (h : intoB s = true) : -20 ≤ intoV n s ∧ intoV n s ≤ 20 := by
 unfold intoB at h
 simp only [decide_eq_true_eq] at h
 have h1 : -20 ≤ maxV s.lo (-20) := by unfold maxV; split <;> omega
 have h2 : minV s.hi 20 ≤ 20 := by unfold minV; split <;> omega
 unfold intoV
 generalize maxV s.lo (-20) = x at *
 generalize minV s.hi 20 = y at *
 unfold maxV minV
 split <;> split <;> omega
theorem rsPt_ok {off : Int} {b : Bx} {g s : Pt} (h : rsOk off b g = true) : okPt 80 (rsPt off b g s) = true := by
 unfold rsOk at h
 simp only [Bool.and_eq_true] at h
 have h1 := into_b (n := s.x) h.1
 have h2 := into_b (n := s.y) h.2
 rw [ok80]
 unfold rsPt
 simp only
 omega
theorem wayP_dW {p s : Pt} (hp : okPt 80 p = true) (hs : okPt 80 s = true) : wayP p s = dW p s := by
 rw [ok80] at hp hs
 have hx : 0 ≤ maxV (p.x - s.x) (s.x - p.x) ∧ maxV (p.x - s.x) (s.x - p.x) ≤ 160 := by unfold maxV; split <;> omega
 have hy : 0 ≤ maxV (p.y - s.y) (s.y - p.y) ∧ maxV (p.y - s.y) (s.y - p.y) ≤ 160 := by unfold maxV; split <;> omega
 have e1 : w64 (p.x - s.x) = p.x - s.x := wrap_small (by omega) (by omega)
 have e2 : w64 (s.x - p.x) = s.x - p.x := wrap_small (by omega) (by omega)
 have e3 : w64 (p.y - s.y) = p.y - s.y := wrap_small (by omega) (by omega)
 have e4 : w64 (s.y - p.y) = s.y - p.y := wrap_small (by omega) (by omega)
 unfold wayP dW
 rw [e1, e2, e3, e4]
 exact wrap_small (by omega) (by omega)
theorem pts_set {l : List Pt} {v j : Nat} {p : Pt} (hv : v < l.length) : (l.set v p).getD j ⟨0, 0⟩ = if j = v then p else l.getD j ⟨0, 0⟩ := by
 rw [List.getD, List.getD, List.getElem?_set]
 by_cases e : v = j
 ·subst e; simp [hv]
 ·rw [if_neg e, if_neg (fun q => e q.symm)]
theorem rs_sum {off : Int} {t : Nat} {hs st : List Pt} {o : List Nat} {b : Bx} (hst : okL st) (hn : st.length ≤ 1000) (hd : o.Nodup) (ho : ∀ v ∈ o, v < st.length) : ∀ i r, i ≤ o.length → rsGo off t hs st o b i = some r →
  r.st.length = st.length ∧ okL r.st ∧ (∀ v, v ∉ o.take i → r.st.getD v ⟨0, 0⟩ = st.getD v ⟨0, 0⟩) ∧ r.n = sumTo (fun j => dN (r.st.getD j ⟨0, 0⟩) (st.getD j ⟨0, 0⟩)) st.length ∧ r.w = sumTo (fun j => dW (r.st.getD j ⟨0, 0⟩) (st.getD j ⟨0, 0⟩)) st.length := by
 intro i
 induction i with
 | zero =>
  intro r _ h
  unfold rsGo at h
  cases h
  refine ⟨rfl, hst, fun _ _ => rfl, ?_, ?_⟩
  ·have : ∀ n, sumTo (fun j => dN (st.getD j ⟨0, 0⟩) (st.getD j ⟨0, 0⟩)) n = 0 := by
    intro n
    induction n with
    | zero => rfl
    | succ n ih => unfold sumTo; rw [ih]; simp [dN]
   exact (this _).symm
  ·have : ∀ n, sumTo (fun j => dW (st.getD j ⟨0, 0⟩) (st.getD j ⟨0, 0⟩)) n = 0 := by
    intro n
    induction n with
    | zero => rfl
    | succ n ih => unfold sumTo; rw [ih]; simp [dW, maxV]
   exact (this _).symm
 | succ i ih =>
  intro r' hi h
  unfold rsGo at h
  split at h
  ·cases h
  ·rename_i r hr
   obtain ⟨q1, q2, q3, q4, q5⟩ := ih r (by omega) hr
   split at h
   ·rename_i hok
    have h := Option.some.inj h
    have hv : o[i]? = some (o.getD i 0) := by rw [List.getD, List.getElem?_eq_getElem (by omega)]; rfl
    have hvm : o.getD i 0 ∈ o := List.mem_of_getElem? hv
    have hvl := ho _ hvm
    have hvn : o.getD i 0 ∉ o.take i := by
     intro hm
     obtain ⟨j, hj, e⟩ := List.mem_take_iff_getElem.1 hm
     have h2 : o[i]'(by omega) = o.getD i 0 := by rw [List.getD, List.getElem?_eq_getElem (by omega)]; rfl
     have := (List.getElem_inj hd).1 (e.trans h2.symm)
     omega
    have hpok : okPt 80 (rsPt off b (rsG t hs i) (st.getD (o.getD i 0) ⟨0, 0⟩)) = true := rsPt_ok hok
    have hq3 := q3 _ hvn
    have htk : ∀ v, v ∉ o.take (i + 1) → v ∉ o.take i ∧ v ≠ o.getD i 0 := by
     intro v hv'
     rw [take_next hv] at hv'
     simp only [List.mem_append, List.mem_singleton, not_or] at hv'
     exact hv'
    generalize rsPt off b (rsG t hs i) (st.getD (o.getD i 0) ⟨0, 0⟩) = p at *
    generalize o.getD i 0 = v at *
    have hset : ∀ j, (r.st.set v p).getD j ⟨0, 0⟩ = if j = v then p else r.st.getD j ⟨0, 0⟩ := fun j => pts_set (by rw [q1]; exact hvl)
    have hst' : r'.st = r.st.set v p := by rw [← h]; exact rsAdd_st _ _ _ _
    have hsv := hst v
    have s1 := sum_set (f := fun j => dN (r.st.getD j ⟨0, 0⟩) (st.getD j ⟨0, 0⟩)) (f' := fun j => dN (r'.st.getD j ⟨0, 0⟩) (st.getD j ⟨0, 0⟩)) (v := v) (fun j hj => by simp only [hst', hset, if_neg hj]) st.length
    have s2 := sum_set (f := fun j => dW (r.st.getD j ⟨0, 0⟩) (st.getD j ⟨0, 0⟩)) (f' := fun j => dW (r'.st.getD j ⟨0, 0⟩) (st.getD j ⟨0, 0⟩)) (v := v) (fun j hj => by simp only [hst', hset, if_neg hj]) st.length
    have b1 := sum_b (f := fun j => dN (r.st.getD j ⟨0, 0⟩) (st.getD j ⟨0, 0⟩)) (fun j => dN_b _ _) st.length
    have b2 := sum_b (f := fun j => dW (r.st.getD j ⟨0, 0⟩) (st.getD j ⟨0, 0⟩)) (fun j => dW_b (q2 j) (hst j)) st.length
    rw [← q4] at b1
    rw [← q5] at b2
    have z1 : dN (st.getD v ⟨0, 0⟩) (st.getD v ⟨0, 0⟩) = 0 := by simp [dN]
    have z2 : dW (st.getD v ⟨0, 0⟩) (st.getD v ⟨0, 0⟩) = 0 := by simp [dW, maxV]
    simp only [if_pos hvl, hq3, z1, z2, hst', hset, if_true, ← q4, ← q5] at s1 s2
    refine ⟨by rw [hst', List.length_set, q1], fun j => ?_, fun w hw => ?_, ?_, ?_⟩
    ·rw [hst', hset]
     split
     ·exact hpok
     ·exact q2 j
    ·obtain ⟨w1, w2⟩ := htk w hw
     rw [hst', hset, if_neg w2]
     exact q3 w w1
    ·simp only [hst', hset]
     rw [s1, ← h]
     unfold rsAdd dN
     split
     ·simp
     ·show w64 (r.n + 1) = _
      rw [show w64 (r.n + 1) = r.n + 1 from wrap_small (by omega) (by omega)]
      omega
    ·simp only [hst', hset]
     rw [s2, ← h]
     have d1 := dW_b hpok hsv
     unfold rsAdd
     split
     ·rename_i e
      rw [e, z2]
      show r.w = _
      omega
     ·show w64 (r.w + wayP p _) = _
      rw [wayP_dW hpok hsv, show w64 (r.w + dW p (st.getD v ⟨0, 0⟩)) = r.w + dW p (st.getD v ⟨0, 0⟩) from wrap_small (by omega) (by omega)]
      omega
   ·cases h
end Go.AM
namespace Go.AM
open Go
variable [Keep]
theorem cmpI_lt {x y : Int} (h : x < y) : cmpI x y = -1 := by unfold cmpI; rw [if_pos h]
theorem cmpI_eq (x : Int) : cmpI x x = 0 := by unfold cmpI; simp
theorem cmpI_gt {x y : Int} (h : y < x) : cmpI x y = 1 := by unfold cmpI; rw [if_neg (by omega), if_pos (by omega)]
theorem orI_cons (x : Int) (l : List Int) : orI (x :: l) = if x = 0 then orI l else x := by
 unfold orI
 by_cases h : x = 0
 ·rw [if_pos h, List.find?_cons_of_neg (by simp [h])]
 ·rw [if_neg h, List.find?_cons_of_pos (by simp [h])]
  rfl
theorem orI_nil : orI [] = 0 := rfl
theorem cmp_bef : ∀ l m : List Pt, decide (cmpL l m < 0) = befB (flatL l) (flatL m) := by
 intro l
 induction l with
 | nil =>
  intro m
  cases m with
  | nil => rfl
  | cons q s => rfl
 | cons p r ih =>
  intro m
  cases m with
  | nil => rfl
  | cons q s =>
   have e1 : flatL (p :: r) = p.x :: p.y :: flatL r := by simp [flatL]
   have e2 : flatL (q :: s) = q.x :: q.y :: flatL s := by simp [flatL]
   have e3 : cmpL (p :: r) (q :: s) = if cmpP p q != 0 then cmpP p q else cmpL r s := rfl
   rw [e1, e2, e3]
   have e4 : cmpP p q = orI [cmpI p.x q.x, cmpI p.y q.y] := rfl
   rw [e4, orI_cons, orI_cons, orI_nil]
   rcases Int.lt_trichotomy p.x q.x with h | h | h
   ·rw [cmpI_lt h]
    simp [befB, h, show ¬ p.x = q.x by omega]
   ·rw [h, cmpI_eq]
    rcases Int.lt_trichotomy p.y q.y with g | g | g
    ·rw [cmpI_lt g]
     simp [befB, g, show ¬ p.y = q.y by omega]
    ·rw [g, cmpI_eq]
     simp only [if_true, bne_self_eq_false, Bool.false_eq_true, if_false]
     rw [ih s]
     simp [befB]
    ·rw [cmpI_gt g]
     simp [befB, show ¬ p.y = q.y by omega, show ¬ p.y < q.y by omega]
     try omega
   ·rw [cmpI_gt h]
    simp [befB, show ¬ p.x = q.x by omega, show ¬ p.x < q.x by omega]
    try omega
theorem bet_is {x y : Rs} {st : List Pt} (hx : manyP x.st st = (x.n, x.w)) (hy : manyP y.st st = (y.n, y.w)) : betR x y = betB x.st y.st st := by
 unfold betR betB
 rw [hx, hy, ← cmp_bef]
 have e : cmpR x y = orI [cmpI x.n y.n, cmpI x.w y.w, cmpL x.st y.st] := rfl
 rw [e, orI_cons, orI_cons, orI_cons, orI_nil]
 generalize cmpL x.st y.st = c
 simp only
 rcases Int.lt_trichotomy x.n y.n with h | h | h
 ·rw [cmpI_lt h]
  simp [h]
 ·rw [h, cmpI_eq]
  rcases Int.lt_trichotomy x.w y.w with g | g | g
  ·rw [cmpI_lt g]
   simp [g]
  ·rw [g, cmpI_eq]
   by_cases k : c = 0 <;> simp [k]
  ·rw [cmpI_gt g]
   have q1 : ¬ x.w < y.w := by omega
   have q2 : ¬ x.w = y.w := by omega
   simp [q1, q2]
 ·rw [cmpI_gt h]
  have q1 : ¬ x.n < y.n := by omega
  have q2 : ¬ x.n = y.n := by omega
  simp [q1, q2]
end Go.AM
namespace Go.AM
open Go
variable [Keep]
def bstep (st : List Pt) (out : Option (List Pt)) (x : List Pt) : Option (List Pt) := match out with
 | none => some x
 | some y => if betB x y st then some x else some y
def bestP (st : List Pt) (l : List (List Pt)) : Option (List Pt) := l.foldl (bstep st) none
theorem best_from {st : List Pt} : ∀ (l : List Rs) (a : Rs), (∀ r ∈ a :: l, manyP r.st st = (r.n, r.w)) → (l.map (·.st)).foldl (bstep st) (some a.st) = some (l.foldl (fun out x => if betR x out then x else out) a).st := by
 intro l
 induction l with
 | nil => intro a _; rfl
 | cons x l ih =>
  intro a h
  have hb : betR x a = betB x.st a.st st := bet_is (h x (by simp)) (h a (by simp))
  simp only [List.map_cons, List.foldl_cons, bstep]
  cases q : betR x a with
  | true =>
   rw [← hb, q]
   simp only [if_true]
   exact ih x (fun r hr => h r (by simp only [List.mem_cons] at hr ⊢; exact .inr hr))
  | false =>
   rw [← hb, q]
   simp only [Bool.false_eq_true, if_false]
   exact ih a (fun r hr => h r (by simp only [List.mem_cons] at hr ⊢; rcases hr with e | e; exact .inl e; exact .inr (.inr e)))
theorem best_law {st : List Pt} {l : List Rs} (h : ∀ r ∈ l, manyP r.st st = (r.n, r.w)) : bestP st (l.map (·.st)) = if l = [] then none else some (bestTo l).st := by
 cases l with
 | nil => rfl
 | cons a l =>
  rw [if_neg (by simp)]
  exact best_from l a h
end Go.AM
namespace Go.AM
open Go
variable [Keep]
theorem ords_good {n : Nat} (h : n ≤ 4) : ∀ o ∈ ordsL n n [], o.Nodup ∧ o.length = n ∧ ∀ v ∈ o, v < n := by
 match n, h with
 | 0, _ => decide
 | 1, _ => decide
 | 2, _ => decide
 | 3, _ => decide
 | 4, _ => decide
theorem rsAll_many {off : Int} {hs st : List Pt} {b : Bx} (hst : okL st) (hn : st.length ≤ 4) : ∀ r ∈ rsAll off hs st b, manyP r.st st = (r.n, r.w) := by
 intro r hr
 unfold rsAll at hr
 obtain ⟨t, _, h⟩ := List.mem_flatMap.1 hr
 obtain ⟨o, hm, ho⟩ := List.mem_filterMap.1 h
 obtain ⟨g1, g2, g3⟩ := ords_good hn o hm
 obtain ⟨q1, q2, _, q4, q5⟩ := rs_sum hst (by omega) g1 g3 st.length r (by omega) ho
 unfold manyP
 rw [q1, many_sum q2 hst _ (by omega), ← q4, ← q5]
def rfAll (off : Int) (hs st : List Pt) (b : Bx) : List (List Pt) := (List.range 8).flatMap fun t => (lev st.length st.length).filterMap fun o => rfGo off t hs st o b st.length
theorem rfAll_is {off : Int} {hs st : List Pt} {b : Bx} (hh : ∀ p ∈ hs, okPt 80 p = true) (hn : st.length ≤ 4) : rfAll off hs st b = (rsAll off hs st b).map (·.st) := by
 unfold rfAll rsAll
 rw [show lev st.length st.length = ordsL st.length st.length [] by first | exact ords_lev _ | exact (ords_lev _).symm, List.map_flatMap]
 have e : ∀ t ∈ List.range 8, ((ordsL st.length st.length []).filterMap fun o => rfGo off t hs st o b st.length) = ((ordsL st.length st.length []).filterMap fun o => rsGo off t hs st o b st.length).map (·.st) := by
  intro t ht
  rw [List.map_filterMap]
  congr 1
  funext o
  exact rf_rs (List.mem_range.1 ht) hh o b st.length
 rw [List.flatMap_def, List.flatMap_def]
 congr 1
 exact List.map_congr_left e
theorem reset_law {off : Int} {hs st : List Pt} {b : Bx} (hh : ∀ p ∈ hs, okPt 80 p = true) (hst : okL st) (hn : st.length ≤ 4) : bestP st (rfAll off hs st b) = if rsAll off hs st b = [] then none else some (bestTo (rsAll off hs st b)).st := by
 rw [rfAll_is hh hn]
 exact best_law (rsAll_many hst hn)
end Go.AM
namespace Go.AM
open Go
variable [Keep]
theorem on_list (ax : Ax) {k : Nat} (hk : k < 13) : ((List.range 13).map (onS ax)).getD k ⟨0, 0⟩ = onS ax k := by
 simp [List.getD, hk]
theorem bounds_good {c w : Sp} {L : List Lim} (g : Good c w L) : boundsS ⟨c, w, L⟩ = refS ⟨c, w, L⟩ := by
 have hc1 := g.c1
 have hc2 := g.c2
 have hc3 := g.c3
 have hw2 := g.w2
 have hw1 := g.w1
 have hw3 := g.w3
 refine bounds_ref ⟨c, w, L⟩ (by simp [empS]; omega) (fun k hk he => by
  obtain ⟨e1, e2⟩ := nxt_small g (by omega) (by omega) (on_bd g k (by omega))
  simp only [empS, decide_eq_false_iff_not] at *
  rw [e1, e2]
  omega)
end Go.AM
namespace Go.AM
open Go
variable [Keep]
theorem back_eq (ax : Ax) : ∀ (n : Nat) (out : List Sp), n < out.length → ∀ j, j < n → (backS ax n out).getD j ⟨0, 0⟩ = interS (out.getD j ⟨0, 0⟩) (prvS ax ((backS ax n out).getD (j + 1) ⟨0, 0⟩)) := by
 intro n
 induction n with
 | zero => intro out _ j hj; omega
 | succ n ih =>
  intro out hn j hj
  simp only [backS]
  by_cases hjn : j < n
  ·rw [ih _ (by simp; omega) j hjn, getD_set_ne (by omega)]
  ·obtain rfl : j = n := by omega
   rw [back_keep _ _ _ _ (Nat.le_refl _), back_keep _ _ _ _ (by omega), getD_set_same (by omega), getD_set_ne (by omega)]
theorem any_not {l : List Sp} (h : l.any empS = false) {j : Nat} (hj : j < l.length) : (l.getD j ⟨0, 0⟩).lo ≤ (l.getD j ⟨0, 0⟩).hi := by
 have := List.any_eq_false.1 h l[j] (List.getElem_mem hj)
 simp only [empS, decide_eq_true_eq] at this
 simp [List.getD, hj]
 omega
structure Bnd (c w : Sp) (L : List Lim) (t : List Sp) : Prop where
 len : t.length = 13
 ne : ∀ j, j ≤ 12 → (t.getD j ⟨0, 0⟩).lo ≤ (t.getD j ⟨0, 0⟩).hi
 sub : ∀ j, j ≤ 12 → (onS ⟨c, w, L⟩ j).lo ≤ (t.getD j ⟨0, 0⟩).lo ∧ (t.getD j ⟨0, 0⟩).hi ≤ (onS ⟨c, w, L⟩ j).hi
 small : ∀ j, j ≤ 12 → -48 ≤ (t.getD j ⟨0, 0⟩).lo ∧ (t.getD j ⟨0, 0⟩).hi ≤ 48
 lo : ∀ j, j < 12 → (t.getD j ⟨0, 0⟩).lo = max (onS ⟨c, w, L⟩ j).lo ((t.getD (j + 1) ⟨0, 0⟩).lo - w.hi)
 hi : ∀ j, j < 12 → (t.getD j ⟨0, 0⟩).hi = min (onS ⟨c, w, L⟩ j).hi ((t.getD (j + 1) ⟨0, 0⟩).hi - w.lo)
theorem bnd_of {c w : Sp} {L : List Lim} (g : Good c w L) {t : List Sp} (ht : boundsS ⟨c, w, L⟩ = some t) : Bnd c w L t := by
 rw [bounds_good g] at ht
 unfold refS at ht
 split at ht
 ·cases ht
 rename_i hne
 have hne : (backS ⟨c, w, L⟩ 12 ((List.range 13).map (onS ⟨c, w, L⟩))).any empS = false := by simpa using hne
 have ht := Option.some.inj ht
 have w1 := g.w1
 have w2 := g.w2
 have w3 := g.w3
 have hlen : t.length = 13 := by rw [← ht, back_len]; simp
 rw [ht] at hne
 have nep : ∀ j, j ≤ 12 → (t.getD j ⟨0, 0⟩).lo ≤ (t.getD j ⟨0, 0⟩).hi := fun j hj => any_not hne (by omega)
 have heq : ∀ j, j < 12 → t.getD j ⟨0, 0⟩ = interS (onS ⟨c, w, L⟩ j) (prvS ⟨c, w, L⟩ (t.getD (j + 1) ⟨0, 0⟩)) := fun j hj => by
  have := back_eq ⟨c, w, L⟩ 12 ((List.range 13).map (onS ⟨c, w, L⟩)) (by simp) j hj
  rw [ht, on_list _ (by omega)] at this
  exact this
 have hlast : t.getD 12 ⟨0, 0⟩ = onS ⟨c, w, L⟩ 12 := by
  have := back_keep ⟨c, w, L⟩ 12 ((List.range 13).map (onS ⟨c, w, L⟩)) 12 (Nat.le_refl _)
  rw [ht, on_list _ (by omega)] at this
  exact this
 have sub : ∀ j, j ≤ 12 → (onS ⟨c, w, L⟩ j).lo ≤ (t.getD j ⟨0, 0⟩).lo ∧ (t.getD j ⟨0, 0⟩).hi ≤ (onS ⟨c, w, L⟩ j).hi := fun j hj => by
  rcases Nat.lt_or_ge j 12 with q | q
  ·rw [heq j q]
   simp only [interS_lo, interS_hi]
   omega
  ·obtain rfl : j = 12 := by omega
   rw [hlast]
   omega
 have small : ∀ j, j ≤ 12 → -48 ≤ (t.getD j ⟨0, 0⟩).lo ∧ (t.getD j ⟨0, 0⟩).hi ≤ 48 := fun j hj => by
  have := on_bd g j (by omega)
  have := sub j hj
  omega
 have prv : ∀ j, j < 12 → (prvS ⟨c, w, L⟩ (t.getD (j + 1) ⟨0, 0⟩)).lo = (t.getD (j + 1) ⟨0, 0⟩).lo - w.hi ∧ (prvS ⟨c, w, L⟩ (t.getD (j + 1) ⟨0, 0⟩)).hi = (t.getD (j + 1) ⟨0, 0⟩).hi - w.lo := fun j hj => by
  have q := small (j + 1) (by omega)
  have e := nep (j + 1) (by omega)
  generalize t.getD (j + 1) ⟨0, 0⟩ = s at *
  exact ⟨wrap_small (show -4611686018427387904 ≤ s.lo - w.hi by omega) (show s.lo - w.hi ≤ 4611686018427387904 by omega), wrap_small (show -4611686018427387904 ≤ s.hi - w.lo by omega) (show s.hi - w.lo ≤ 4611686018427387904 by omega)⟩
 refine ⟨hlen, nep, sub, small, fun j hj => ?_, fun j hj => ?_⟩
 ·rw [congrArg Sp.lo (heq j hj), interS_lo, (prv j hj).1]
 ·rw [congrArg Sp.hi (heq j hj), interS_hi, (prv j hj).2]
end Go.AM
namespace Go.AM
open Go Go.Proofs
variable [Keep]
attribute [local irreducible] W WO WO1 WD WQ WT thenQ blockQ endR isRet retK Cl ClR
attribute [local irreducible] matchS goodB goodR boundsS machB measB sureW
theorem sp_ok {c w : Sp} {L : List Lim} {t : List Sp} (b : Bnd c w L t) {k : Nat} (hk : k ≤ 12) : SpOk (t.getD k ⟨0, 0⟩) := by
 have h1 := b.small k hk
 have h2 := b.ne k hk
 exact ⟨by omega, by omega, by omega, by omega⟩
theorem spans_ok {st : List Pt} {cx cy wx wy : Sp} {rs : List Rdg} (h : machB st cx cy wx wy rs = true) {a b : List Sp} (ha : boundsS (ax0 cx wx rs []) = some a) (hb : boundsS (ax1 cy wy rs []) = some b) {k : Nat} (hk : k ≤ 12) : SpOk (a.getD k ⟨0, 0⟩) ∧ SpOk (b.getD k ⟨0, 0⟩) := by
 have e1 : ax0 cx wx rs [] = ⟨cx, wx, lims155 rs⟩ := by simp [ax0]
 have e2 : ax1 cy wy rs [] = ⟨cy, wy, lims156 rs⟩ := by simp [ax1]
 rw [e1] at ha
 rw [e2] at hb
 exact ⟨sp_ok (bnd_of (good_x h) ha) hk, sp_ok (bnd_of (good_y h) hb) hk⟩
theorem ask_ok {hs st : List Pt} {off : Int} {m fine : Bool} (h : askOk hs st off m fine = true) : measB hs off = true ∧ m = true ∧ hs.length = st.length ∧ fine = true ∧ 1 ≤ st.length ∧ st.length ≤ 8 := by
 unfold askOk at h
 simp only [Bool.and_eq_true, decide_eq_true_eq] at h
 obtain ⟨⟨⟨h1, h2⟩, h3⟩, h4⟩ := h
 have := meas_len h1
 exact ⟨h1, h2, by omega, h4, by omega, by omega⟩
end Go.AM
namespace Go.AM
open Go Go.Proofs
variable [Keep]
attribute [local irreducible] W WO WO1 WD WQ WT thenQ blockQ endR isRet retK Cl ClR
attribute [local irreducible] matchS boundsS machB measB upAny rowAny sureW
structure CntOk (g n : Int) (good bad : Bool) : Prop where
 g0 : 0 ≤ g
 gn : g ≤ n
 all : g = n ↔ bad = false
 none : g = 0 ↔ good = false
theorem sure_def (G : Pt → Bool) (x y : Sp) : sureW G x y = if upAny (fun p => !G p) x y (ny x) then (if upAny G x y (ny x) then 2 else 1) else 3 := by unfold sureW; rfl
end Go.AM
namespace Go.AM
open Go Go.Proofs
variable [Keep]
attribute [local irreducible] W WO WO1 WD WQ WT thenQ blockQ endR isRet retK Cl ClR
attribute [local irreducible] matchS goodB goodR boundsS machB measB sureW
def gaugeN (f : Nat → Int) : Nat := ((List.range 12).findSome? fun n => if f (n + 1) = 3 then none else some n).getD 12
theorem gauge_at {f : Nat → Int} {i : Nat} (h : ∀ j, j < i → f (j + 1) = 3) (hi : i < 12) (hn : f (i + 1) ≠ 3) : gaugeN f = i := by
 unfold gaugeN
 rw [find_some (i := i) (o := i) (fun j hj => if_pos (h j hj)) (if_neg hn) hi]
 rfl
theorem gauge_all {f : Nat → Int} (h : ∀ j, j < 12 → f (j + 1) = 3) : gaugeN f = 12 := by
 unfold gaugeN
 rw [find_none fun j hj => if_pos (h j hj)]
 rfl
def sureAt (G : Pt → Bool) (a b : List Sp) (n : Nat) : Int := sureW G (a.getD n ⟨0, 0⟩) (b.getD n ⟨0, 0⟩)
noncomputable def cGU : FuncId → Option (List AV → Heap → Option (AV × Heap))
 | 100 => some (pureFn sp100)
 | 107 => some (pureFn sp107)
 | 138 => some (pureFn sp138)
 | _ => none
theorem cGU_sound : Sound (dX cGU) := dX_sound (fun f g h => by
 unfold cGU at h
 split at h
 ·cases h; exact F100
 ·cases h; exact F107
 ·cases h; exact F138
 ·cases h)
def gaugeF (ok : Bool) (A B : Option (List Sp)) (G : Pt → Bool) : AV :=
 if ok then (match A, B with
  | some a, some b => .tuple [.int .i64 (gaugeN (sureAt G a b) : Nat), .int .i64 0]
  | _, _ => .tuple [.int .i64 0, .int .i64 7]) else .tuple [.int .i64 0, .int .i64 2]
def sp46 : List AV → Option AV
 | [.agg [ca, .int .i64 off], .agg [sa, .int .i64 cxl, .int .i64 cxh, .int .i64 cyl, .int .i64 cyh, .int .i64 wxl, .int .i64 wxh, .int .i64 wyl, .int .i64 wyh, ra]] => match slV ptC ca, slV ptC sa, slV rdgC ra with
  | some hs, some st, some rs => some (gaugeF (askOk hs st off (machB st ⟨cxl, cxh⟩ ⟨cyl, cyh⟩ ⟨wxl, wxh⟩ ⟨wyl, wyh⟩ rs) true) (boundsS (ax0 ⟨cxl, cxh⟩ ⟨wxl, wxh⟩ rs [])) (boundsS (ax1 ⟨cyl, cyh⟩ ⟨wyl, wyh⟩ rs [])) (goodB off hs st))
  | _, _, _ => none
 | _ => none
theorem p46 : ∀ args v, sp46 args = some v → v.pur = true := by
 intro args v h
 unfold sp46 at h
 split at h
 ·split at h
  ·have h := Option.some.inj h
   subst h
   unfold gaugeF
   split
   ·split <;> rfl
   ·rfl
  ·cases h
 ·cases h
set_option maxHeartbeats 8000000 in
theorem F46 : IntrFn Tryz.prog 46 (pureFn sp46) := by
 refine pure_fn (X := dX cGU) cGU_sound p46 ?_
 intro args v h
 unfold sp46 at h
 split at h
 ·rename_i ca off sa cxl cxh cyl cyh wxl wxh wyl wyh ra
  split at h
  ·rename_i hs st rs hc hl hr
   have h := Option.some.inj h
   subst h
   have o1 := sl_out hc
   have o2 := sl_out hl
   have o3 := sl_out hr
   obtain ⟨one1, t1⟩ := sl_one hc
   obtain ⟨one2, t2⟩ := sl_one hl
   obtain ⟨one3, t3⟩ := sl_one hr
   have k107 : ∀ h, Cl (dX cGU) 107 [.agg [ca, .int .i64 off], .agg [sa, .int .i64 cxl, .int .i64 cxh, .int .i64 cyl, .int .i64 cyh, .int .i64 wxl, .int .i64 wxh, .int .i64 wyl, .int .i64 wyh, ra], .bool true] h (.ret (askV (askOk hs st off (machB st ⟨cxl, cxh⟩ ⟨cyl, cyh⟩ ⟨wxl, wxh⟩ ⟨wyl, wyh⟩ rs) true) (boundsS (ax0 ⟨cxl, cxh⟩ ⟨wxl, wxh⟩ rs [])) (boundsS (ax1 ⟨cyl, cyh⟩ ⟨wyl, wyh⟩ rs []))) h none) := fun h => Cl.intr (g := pureFn sp107) rfl (by simp [pureFn, AV.pur, AV.purL, sl_pur hc, sl_pur hl, sl_pur hr, sp107, hc, hl, hr])
   have h102 := fun n m => C102 cGU rfl sa ra ⟨cxl, cxh⟩ ⟨cyl, cyh⟩ ⟨wxl, wxh⟩ ⟨wyl, wyh⟩ (slV_is hl).1.frz1 (slV_is hr).1.frz1 n m
   have H102 := Lib.hid h102
   have b20 : ((2 : Int) != 0) = true := rfl
   have b70 : ((7 : Int) != 0) = true := rfl
   have b00 : ((0 : Int) != 0) = false := rfl
   by_cases hall : ∃ a b, askOk hs st off (machB st ⟨cxl, cxh⟩ ⟨cyl, cyh⟩ ⟨wxl, wxh⟩ ⟨wyl, wyh⟩ rs) true = true ∧ boundsS (ax0 ⟨cxl, cxh⟩ ⟨wxl, wxh⟩ rs []) = some a ∧ boundsS (ax1 ⟨cyl, cyh⟩ ⟨wyl, wyh⟩ rs []) = some b
   ·obtain ⟨a, b, hok, hA, hB⟩ := hall
    obtain ⟨m1, m2, hlen, hin, hl1, hl8⟩ := ask_ok hok
    rw [hok, hA, hB] at k107
    rw [hok, hA, hB]
    simp only [askV, if_true] at k107
    simp only [gaugeF, if_true]
    have hla := boundsS_len hA
    have hlb := boundsS_len hB
    have ea : slN (a.map spC.enc) = .vslice (a.map spC.enc) := by cases a with | nil => simp at hla | cons x l => rfl
    have eb : slN (b.map spC.enc) = .vslice (b.map spC.enc) := by cases b with | nil => simp at hlb | cons x l => rfl
    simp only [ea, eb] at k107
    have hcl1 := fun (p q : Sp) (hp : SpOk p) (hq : SpOk q) (h : Heap) (tb : List (Pt × Bool)) (q1 : h.get 0 = some (.mp (encT tb))) (q2 : TabOk (goodB off hs st) tb) => C108 cGU rfl rfl rfl rfl sa ra ca ⟨cxl, cxh⟩ ⟨cyl, cyh⟩ ⟨wxl, wxh⟩ ⟨wyl, wyh⟩ st hs off p q 0 h tb hl one3 t3 o3 hc hlen hl1 hl8 hp hq q1 q2
    have hsp := fun k (hk : k ≤ 12) => spans_ok m2 hA hB (k := k) hk
    have HSP := Lib.hid hsp
    have HLA := Lib.hid hla
    have HLB := Lib.hid hlb
    have HCL := Lib.hid hcl1
    have hi1 := fun k (p : Sp) (hp : a[k]? = some p) (H : Heap) => sp_idx hp H
    have hi2 := fun k (p : Sp) (hp : b[k]? = some p) (H : Heap) => sp_idx hp H
    have HI1 := Lib.hid hi1
    have HI2 := Lib.hid hi2
    have i0 := ix147_0
    have i1 := ix147_1
    have hsa : ∀ n, sureAt (goodB off hs st) a b n = sureW (goodB off hs st) (a.getD n ⟨0, 0⟩) (b.getD n ⟨0, 0⟩) := fun _ => rfl
    have HSA := Lib.hid hsa
    generalize goodB off hs st = G at *
    generalize hgn : gaugeN (sureAt G a b) = gn at *
    have HGN := Lib.hid hgn
    generalize sureAt G a b = sat at *
    generalize a.map spC.enc = la at *
    generalize b.map spC.enc = lb at *
    clear hc hl hr h102 hok hA hB hla hlb ea eb hsp hcl1 hi1 hi2 hsa hgn m1 m2 hlen hin hl1 hl8
    refine ClR.walk (c := _) rfl Tryz.func46 rfl (by kernel_rfl) rfl isRet_fail ?_
    simp only [entryEnv, Nat.reduceAdd, emptyHp]
    repeat' (first | refine goS ?_ | (apply U6; exact Z1; exact Z1; (focus (simp only [List.nil_append, List.append_nil]; first | exact k107 _ | exact H102.out _ _)); simp only [pM, pN, rR, rP]) | refine go2 (fun hh => ?_) (fun hh => ?_) | fail)
    refine W.loopN 12 (fun i F => ∃ e lm hp tb, F = Fr.mk 46 false e lm hp [] none ∧ (hp.get 0 = some (.mp (encT tb)) ∧ TabOk G tb) ∧ (∀ j, j < i → sat (j + 1) = 3) ∧
     lm.get 2 = some (0, [ca, .int .i64 off]) ∧ lm.get 6 = some (0, [.vslice la, .vslice lb]) ∧ lm.get 8 = some (0, [sa, .int .i64 cxl, .int .i64 cxh, .int .i64 cyl, .int .i64 cyh, .int .i64 wxl, .int .i64 wxh, .int .i64 wyl, .int .i64 wyh, ra, .map 0]) ∧
     e.get 2 = some (.lptr 2 0 0) ∧ e.get 6 = some (.lptr 6 0 0) ∧ e.get 8 = some (.lptr 8 0 0) ∧ e.get 9 = some (.int .i64 ↑i) ∧ i ≤ 12) ?_ ?_
    ·refine ⟨_, _, _, [], rfl, ⟨rfl, fun e he => by simp at he⟩, fun j hj => absurd hj (by omega), ?_, ?_, ?_, ?_, ?_, ?_, ?_, Nat.zero_le _⟩ <;> first | exact Z2 | simp [go_sem, *]
    clear k107 H102
    rintro i F ⟨e, lm, hp, tb, rfl, hhp, hall, m2, m6, m8, e2, e6, e8, e9, hi⟩
    have HHP := Lib.hid hhp
    have HALL := Lib.hid hall
    clear hhp hall
    by_cases hlt : i < 12
    ·have hd : decide ((i : Int) < 12) = true := by simp; omega
     have hw := wrap_succ (m := 12) hlt (by unfold maxL; omega)
     obtain ⟨p, hp'⟩ := get_some (show i + 1 < a.length by rw [HLA.out]; omega)
     obtain ⟨q, hq'⟩ := get_some (show i + 1 < b.length by rw [HLB.out]; omega)
     have hx1 := HI1.out (i + 1) p hp'
     have hx2 := HI2.out (i + 1) q hq'
     have hspq := HSP.out (i + 1) (by omega)
     have g1 : a.getD (i + 1) ⟨0, 0⟩ = p := by simp [List.getD, hp']
     have g2 : b.getD (i + 1) ⟨0, 0⟩ = q := by simp [List.getD, hq']
     have hst := HSA.out (i + 1)
     rw [g1, g2] at hspq hst
     have hcl0 := HCL.out p q hspq.1 hspq.2 hp tb HHP.out.1 HHP.out.2
     unfold ClR at hcl0
     obtain ⟨r, hcl, hcr⟩ := hcl0
     unfold sureR at hcr
     obtain ⟨hp2, tb2, rfl, _, n2, n3, _⟩ := hcr
     have HN := Lib.hid (show hp2.get 0 = some (.mp (encT tb2)) ∧ TabOk G tb2 from ⟨n2, n3⟩)
     generalize sureW G p q = w at *
     have HST := Lib.hid hst
     clear hp' hq' hspq g1 g2 hst n2 n3
     by_cases hw3 : w = 3
     ·have b33 : (w == 3) = true := by simp [hw3]
      have HW := Lib.hid hw3
      clear hw3
      repeat' (first | (apply W.drawQ (id := 6) (l1 := [0, 1, 2, 3, 4, 5, 6, 7, 8, 9, 10, 11, 12, 13, 14, 15, 16]) (l2 := [17, 18, 19]); kernel_rfl; kernel_rfl; kernel_rfl; exact Z4) | (apply W.drawQ (id := 6) (l1 := [0, 1, 2, 3, 4, 5, 6, 7, 8, 9, 10, 11, 12, 13, 14, 15, 16, 17, 18, 19]) (l2 := []); kernel_rfl; kernel_rfl; kernel_rfl; exact Z4) | refine go1 ?_ | (apply U6; exact Z1; exact Z1; (focus (simp only [List.nil_append, List.append_nil]; first | exact hcl)); simp only [pM, pN, rR, rP]) | refine go2 (fun hh => ?_) (fun hh => ?_) | fail)
      refine ⟨hlt, _, _, hp2, tb2, rfl, HN.out, fun j hj => ?_, ?_, ?_, ?_, ?_, ?_, ?_, ?_, by omega⟩
      ·rcases Nat.lt_or_ge j i with c | c
       ·exact HALL.out j c
       ·obtain rfl : j = i := by omega
        rw [HST.out]; exact HW.out
      all_goals exact Z2
     ·have b33 : (w == 3) = false := by simp [hw3]
      have HG := Lib.hid (gauge_at HALL.out hlt (by rw [HST.out]; exact hw3))
      clear hw3
      repeat' (first | (apply W.drawQ (id := 6) (l1 := [0, 1, 2, 3, 4, 5, 6, 7, 8, 9, 10, 11, 12, 13, 14, 15, 16]) (l2 := [17, 18, 19]); kernel_rfl; kernel_rfl; kernel_rfl; exact Z4) | (apply W.drawQ (id := 6) (l1 := [0, 1, 2, 3, 4, 5, 6, 7, 8, 9, 10, 11, 12, 13, 14, 15, 16, 17, 18, 19]) (l2 := []); kernel_rfl; kernel_rfl; kernel_rfl; exact Z4) | refine go1 ?_ | (apply U6; exact Z1; exact Z1; (focus (simp only [List.nil_append, List.append_nil]; first | exact hcl)); simp only [pM, pN, rR, rP]) | refine go2 (fun hh => ?_) (fun hh => ?_) | fail)
      all_goals (simp only [resV_def (X := dX cGU) Tryz.func46, Tryz.results46]; first | exact J5 | refine J6 ?_)
      rw [← HGN.out, HG.out]
    ·have hd : decide ((i : Int) < 12) = false := by simp; omega
     have hi12 : i = 12 := by omega
     have HG := Lib.hid (gauge_all (f := sat) fun j hj => HALL.out j (by omega))
     subst hi12
     clear hlt hi
     repeat' (first | (apply W.drawQ (id := 6) (l1 := [0, 1, 2, 3, 4, 5, 6, 7, 8, 9, 10, 11, 12, 13, 14, 15, 16]) (l2 := [17, 18, 19]); kernel_rfl; kernel_rfl; kernel_rfl; exact Z4) | (apply W.drawQ (id := 6) (l1 := [0, 1, 2, 3, 4, 5, 6, 7, 8, 9, 10, 11, 12, 13, 14, 15, 16, 17, 18, 19]) (l2 := []); kernel_rfl; kernel_rfl; kernel_rfl; exact Z4) | refine go1 ?_ | refine go2 (fun hh => ?_) (fun hh => ?_) | fail)
     all_goals (simp only [resV_def (X := dX cGU) Tryz.func46, Tryz.results46]; first | exact J5 | refine J6 ?_)
     rw [← HGN.out, HG.out]
   ·have hno : ∃ e : Int, askV (askOk hs st off (machB st ⟨cxl, cxh⟩ ⟨cyl, cyh⟩ ⟨wxl, wxh⟩ ⟨wyl, wyh⟩ rs) true) (boundsS (ax0 ⟨cxl, cxh⟩ ⟨wxl, wxh⟩ rs [])) (boundsS (ax1 ⟨cyl, cyh⟩ ⟨wyl, wyh⟩ rs [])) = .tuple [.agg [.nilslice, .nilslice], .int .i64 e] ∧ gaugeF (askOk hs st off (machB st ⟨cxl, cxh⟩ ⟨cyl, cyh⟩ ⟨wxl, wxh⟩ ⟨wyl, wyh⟩ rs) true) (boundsS (ax0 ⟨cxl, cxh⟩ ⟨wxl, wxh⟩ rs [])) (boundsS (ax1 ⟨cyl, cyh⟩ ⟨wyl, wyh⟩ rs [])) (goodB off hs st) = .tuple [.int .i64 0, .int .i64 e] ∧ (e != 0) = true := by
     generalize askOk hs st off (machB st ⟨cxl, cxh⟩ ⟨cyl, cyh⟩ ⟨wxl, wxh⟩ ⟨wyl, wyh⟩ rs) true = ok at *
     generalize boundsS (ax0 ⟨cxl, cxh⟩ ⟨wxl, wxh⟩ rs []) = A at *
     generalize boundsS (ax1 ⟨cyl, cyh⟩ ⟨wyl, wyh⟩ rs []) = B at *
     cases ok with
     | false => exact ⟨2, rfl, rfl, rfl⟩
     | true =>
      cases A with
      | none => exact ⟨7, rfl, rfl, rfl⟩
      | some a =>
       cases B with
       | none => exact ⟨7, rfl, rfl, rfl⟩
       | some b => exact absurd ⟨a, b, rfl, rfl, rfl⟩ hall
    obtain ⟨e, e1, e2, e3⟩ := hno
    rw [e1] at k107
    rw [e2]
    clear hc hl hr h102 H102 hall e1 e2
    refine ClR.walk (c := _) rfl Tryz.func46 rfl (by kernel_rfl) rfl isRet_fail ?_
    simp only [entryEnv, Nat.reduceAdd, emptyHp]
    repeat' (first | refine goS ?_ | (apply U6; exact Z1; exact Z1; (focus (simp only [List.nil_append, List.append_nil]; first | exact k107 _)); simp only [pM, pN, rR, rP]) | refine go2 (fun hh => ?_) (fun hh => ?_) | fail)
    all_goals (simp only [resV_def (X := dX cGU) Tryz.func46, Tryz.results46]; first | exact J5 | refine J6 ?_)
  ·cases h
 ·cases h
end Go.AM
namespace Go.AM
open Go Go.Proofs
variable [Keep]
attribute [local irreducible] W WO WO1 WD WQ WT thenQ blockQ endR isRet retK Cl ClR
attribute [local irreducible] matchS boundsS machB measB sureW goodB
def heldI (hs st : List Pt) (off : Int) (m : Bool) (p : Bool) (bl : Bool) : Int := if measB hs off && m && decide (hs.length = st.length) && bl then (if p then 0 else 7) else 2
def sp44 : List AV → Option AV
 | [.agg [ca, .int .i64 off], .agg [sa, .int .i64 cxl, .int .i64 cxh, .int .i64 cyl, .int .i64 cyh, .int .i64 wxl, .int .i64 wxh, .int .i64 wyl, .int .i64 wyh, ra], .int .i64 blank, .int .i64 from'] => match slV ptC ca, slV ptC sa, slV rdgC ra with
  | some hs, some st, some rs => some (.int .i64 (heldI hs st off (machB st ⟨cxl, cxh⟩ ⟨cyl, cyh⟩ ⟨wxl, wxh⟩ ⟨wyl, wyh⟩ rs) ((boundsS (ax0 ⟨cxl, cxh⟩ ⟨wxl, wxh⟩ rs [])).isSome && (boundsS (ax1 ⟨cyl, cyh⟩ ⟨wyl, wyh⟩ rs [])).isSome) (inB blank from' 12)))
  | _, _, _ => none
 | _ => none
theorem p44 : ∀ args v, sp44 args = some v → v.pur = true := by
 intro args v h
 unfold sp44 at h
 split at h
 ·split at h
  ·have h := Option.some.inj h
   subst h
   rfl
  ·cases h
 ·cases h
noncomputable def cGS : FuncId → Option (List AV → Heap → Option (AV × Heap))
 | 31 => some (pureFn sp31)
 | 40 => some (pureFn sp40)
 | 41 => some (pureFn sp41)
 | 71 => some (flatFn sp71)
 | _ => none
theorem cGS_sound : Sound (dX cGS) := dX_sound (fun f g h => by
 unfold cGS at h
 split at h
 ·cases h; exact F31
 ·cases h; exact F40
 ·cases h; exact F41
 ·cases h; exact F71
 ·cases h)
set_option maxHeartbeats 4000000 in
theorem F44 : IntrFn Tryz.prog 44 (pureFn sp44) := by
  refine pure_fn (X := dX cGS) cGS_sound p44 ?_
  intro args v h
  unfold sp44 at h
  split at h
  · rename_i ca off sa cxl cxh cyl cyh wxl wxh wyl wyh ra blank fr
    split at h
    · rename_i hs st rs hc hl hr
      have h := Option.some.inj h
      subst h
      have o1 := sl_out hc
      have o2 := sl_out hl
      have o3 := sl_out hr
      have l1 := sl_len hc
      have l2 := sl_len hl
      obtain ⟨one1, t1⟩ := sl_one hc
      obtain ⟨one2, t2⟩ := sl_one hl
      obtain ⟨one3, t3⟩ := sl_one hr
      have k31 : ∀ h, Cl (dX cGS) 31 [.agg [ca, .int .i64 off]] h (.ret (.bool (measB hs off)) h none) := fun h => Cl.intr (g := pureFn sp31) rfl (by simp [pureFn, AV.pur, AV.purL, sl_pur hc, sp31, hc])
      have k71 : ∀ h, Cl (dX cGS) 71 [.agg [sa, .int .i64 cxl, .int .i64 cxh, .int .i64 cyl, .int .i64 cyh, .int .i64 wxl, .int .i64 wxh, .int .i64 wyl, .int .i64 wyh, ra]] h (.ret (.bool (machB st ⟨cxl, cxh⟩ ⟨cyl, cyh⟩ ⟨wxl, wxh⟩ ⟨wyl, wyh⟩ rs)) h none) := fun h => by
        have := K71 (X := dX cGS) rfl sa ra st rs ⟨cxl, cxh⟩ ⟨cyl, cyh⟩ ⟨wxl, wxh⟩ ⟨wyl, wyh⟩ hl hr h
        rw [machR_B] at this
        exact this
      have k41 : ∀ h, Cl (dX cGS) 41 [.int .i64 blank, .int .i64 fr] h (.ret (.bool (inB blank fr 12)) h none) := fun h => Cl.intr (g := pureFn sp41) rfl rfl
      have k40 : ∀ h, Cl (dX cGS) 40 [.agg [sa, .int .i64 cxl, .int .i64 cxh, .int .i64 cyl, .int .i64 cyh, .int .i64 wxl, .int .i64 wxh, .int .i64 wyl, .int .i64 wyh, ra]] h (.ret (.int .i64 (ableI (machB st ⟨cxl, cxh⟩ ⟨cyl, cyh⟩ ⟨wxl, wxh⟩ ⟨wyl, wyh⟩ rs) ((boundsS (ax0 ⟨cxl, cxh⟩ ⟨wxl, wxh⟩ rs [])).isSome && (boundsS (ax1 ⟨cyl, cyh⟩ ⟨wyl, wyh⟩ rs [])).isSome))) h none) := fun h => Cl.intr (g := pureFn sp40) rfl (by simp [pureFn, AV.pur, AV.purL, sl_pur hl, sl_pur hr, sp40, hl, hr])
      have HH := Lib.hid (show ∀ m p bl, heldI hs st off m p bl = (if measB hs off && m && decide (hs.length = st.length) && bl then (if p then 0 else 7) else 2) from fun _ _ _ => rfl)
      generalize ((boundsS (ax0 ⟨cxl, cxh⟩ ⟨wxl, wxh⟩ rs [])).isSome && (boundsS (ax1 ⟨cyl, cyh⟩ ⟨wyl, wyh⟩ rs [])).isSome) = pb at *
      generalize machB st ⟨cxl, cxh⟩ ⟨cyl, cyh⟩ ⟨wxl, wxh⟩ ⟨wyl, wyh⟩ rs = b2 at *
      generalize inB blank fr 12 = b4 at *
      generalize hres : heldI hs st off b2 pb b4 = res
      have hr2 := hres.symm.trans (HH.out b2 pb b4)
      generalize measB hs off = b1 at *
      have HR := Lib.hid hr2
      have hcase : (b1 = false) ∨ (b1 = true ∧ b2 = false) ∨ (b1 = true ∧ b2 = true ∧ ((hs.length : Int) != (st.length : Int)) = true) ∨ (b1 = true ∧ b2 = true ∧ ((hs.length : Int) != (st.length : Int)) = false ∧ b4 = false) ∨ (b1 = true ∧ b2 = true ∧ ((hs.length : Int) != (st.length : Int)) = false ∧ b4 = true) := by
        cases b1 <;> cases b2 <;> cases b4 <;> cases ((hs.length : Int) != (st.length : Int)) <;> simp
      clear hc hl hr hres hr2 HH
      refine ClR.walk (c := _) rfl Tryz.func44 rfl (by kernel_rfl) rfl isRet_fail ?_
      simp only [entryEnv, Nat.reduceAdd, emptyHp]
      rcases hcase with q1 | ⟨q1, q2⟩ | ⟨q1, q2, q3⟩ | ⟨q1, q2, q3, q4⟩ | ⟨q1, q2, q3, q4⟩
      case inr.inr.inr.inr =>
        have hlen : decide (hs.length = st.length) = true := by
          have := q3
          simp at this ⊢
          omega
        have hrs : res = if pb then 0 else 7 := by rw [HR.out, q1, q2, hlen, q4]; rfl
        have HRS := Lib.hid hrs
        subst q1 q2 q4
        simp only [ableI, if_true] at k40
        clear HR hlen hrs
        generalize (if pb = true then (0 : Int) else 7) = w at *
        repeat' (first | refine goS ?_ | (apply U6; exact Z1; exact Z1; (focus (simp only [List.nil_append, List.append_nil]; first | exact k31 _ | exact k71 _ | exact k41 _ | exact k40 _)); simp only [pM, pN, rR, rP]) | refine go2 (fun hh => ?_) (fun hh => ?_) | fail)
        all_goals (simp only [resV_def (X := dX cGS) Tryz.func44, Tryz.results44]; first | exact J5 | refine J6 ?_)
        rw [HRS.out]
      all_goals (
        have hrs : res = 2 := by
          rw [HR.out]
          first
            | (rw [q1]; rfl)
            | (rw [q1, q2]; rfl)
            | (have hlen : decide (hs.length = st.length) = false := by
                have := q3
                simp at this ⊢
                omega
               rw [q1, q2, hlen]; rfl)
            | (rw [q4]; simp)
        rw [hrs]
        clear HR hrs k40
        subst q1
        repeat' (first | refine goS ?_ | (apply U6; exact Z1; exact Z1; (focus (simp only [List.nil_append, List.append_nil]; first | exact k31 _ | exact k71 _ | exact k41 _)); simp only [pM, pN, rR, rP]) | refine go2 (fun hh => ?_) (fun hh => ?_) | fail)
        all_goals (simp only [resV_def (X := dX cGS) Tryz.func44, Tryz.results44]; first | exact J5 | refine J6 ?_))
    · cases h
  · cases h
end Go.AM
namespace Go.AM
open Go Go.Proofs
variable [Keep]
attribute [local irreducible] W WO WO1 WD WQ WT thenQ blockQ endR isRet retK Cl ClR
attribute [local irreducible] matchS boundsS machB measB sureW goodB askOk heldI
theorem held_ask (hs st : List Pt) (off : Int) (m p bl : Bool) : heldI hs st off m p bl = if askOk hs st off m bl then (if p then 0 else 7) else 2 := by
 unfold heldI askOk
 have : decide (hs.length = st.length) = decide (st.length = hs.length) := by
  rw [Bool.eq_iff_iff]
  simp
  omega
 rw [this]
end Go.AM
namespace Go.AM
open Go Go.Proofs
variable [Keep]
attribute [local irreducible] W WO WO1 WD WQ WT thenQ blockQ endR isRet retK Cl ClR
attribute [local irreducible] matchS boundsS machB measB sureW goodB askOk gaugeN sureAt fitsM truthB upAny rowAny
section
variable {X : Ctx} {ops : Array Oper} {K P : AV → Fr → Prop} {F : Fr} {d : Option Tmp} {op : Op} {T : TypeId} {p : String} {af : Array Edge} {j : Nat} {want : Bool} {o : Oper} {t : Tmp}
end
theorem gauge_is (f : Nat → Int) : gaugeN f ≤ 12 ∧ (∀ k, 1 ≤ k → k ≤ gaugeN f → f k = 3) ∧ (gaugeN f < 12 → f (gaugeN f + 1) ≠ 3) := by
 by_cases h : ∀ j, j < 12 → f (j + 1) = 3
 ·rw [gauge_all h]
  refine ⟨Nat.le_refl _, fun k h1 h2 => ?_, fun e => by omega⟩
  have := h (k - 1) (by omega)
  rw [show k - 1 + 1 = k by omega] at this
  exact this
 ·
  have hex : ∃ i, i < 12 ∧ f (i + 1) ≠ 3 ∧ ∀ j, j < i → f (j + 1) = 3 := by
   have key : ∀ m, (∀ j, j < m → f (j + 1) = 3) ∨ ∃ i, i < m ∧ f (i + 1) ≠ 3 ∧ ∀ j, j < i → f (j + 1) = 3 := by
    intro m
    induction m with
    | zero => exact .inl fun j hj => by omega
    | succ m ih =>
     rcases ih with q | ⟨i, q1, q2, q3⟩
     ·by_cases hm : f (m + 1) = 3
      ·refine .inl fun j hj => ?_
       rcases Nat.lt_or_ge j m with c | c
       ·exact q j c
       ·obtain rfl : j = m := by omega
        exact hm
      ·exact .inr ⟨m, by omega, hm, q⟩
     ·exact .inr ⟨i, by omega, q2, q3⟩
   rcases key 12 with q | q
   ·exact absurd q h
   ·exact q
  obtain ⟨i, h1, h2, h3⟩ := hex
  rw [gauge_at h3 h1 h2]
  refine ⟨by omega, fun k hk1 hk2 => ?_, fun _ => h2⟩
  have := h3 (k - 1) (by omega)
  rw [show k - 1 + 1 = k by omega] at this
  exact this
theorem mach_stops {st : List Pt} {cx cy wx wy : Sp} {rs : List Rdg} (h : machB st cx cy wx wy rs = true) : st.all (okPt 20) = true := by
 unfold machB at h
 simp only [allB_P, pointsB, Bool.and_eq_true] at h
 simp_all
end Go.AM
namespace Go.AM
open Go
variable [Keep]
attribute [local irreducible] boundsS
theorem ord_mem {n : Nat} {o : List Nat} (h : IsOrd n o) : o ∈ ordsL n n [] := by
 rw [ords_lev]
 cases hf : (lev n n).find? (fun s => s == o) with
 | none =>
  rw [lev_srch] at hf
  have := srch_none n [] hf (by simp) o (by simpa using h)
  simp at this
 | some s =>
  have h1 := List.find?_some hf
  have h2 := List.mem_of_find?_eq_some hf
  simp only [beq_iff_eq] at h1
  rw [← h1]; exact h2
section
variable {ss : List Pt} {cx cy wx wy : Sp} {rs : List Rdg} {xs ys : List Int} (h : machB ss cx cy wx wy rs = true) (ht : truthB xs ys = true) (hf : fitsM cx cy wx wy rs xs ys = true)
include h ht hf
end
end Go.AM
