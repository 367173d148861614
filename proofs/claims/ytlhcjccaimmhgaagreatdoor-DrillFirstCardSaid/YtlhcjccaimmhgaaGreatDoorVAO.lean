/-
  A part of the proof: contracts of functions.
-/
import Derived.Test.YtlhcjccaimmhgaaGreatDoorVAN
import Derived.Test.YtlhcjccaimmhgaaGreatDoorVAM
import Derived.Test.YtlhcjccaimmhgaaGreatDoorVAJ
set_option linter.unusedSectionVars false
set_option linter.unusedVariables false
set_option linter.unusedSimpArgs false
set_option maxRecDepth 100000
namespace Go.AM
open Go Go.Proofs
variable [Keep]
attribute [local irreducible] W WO WO1 WD WQ WT thenQ blockQ endR isRet retK Cl ClR
attribute [local irreducible] roundQ RdR clR
section
variable {α β σ : Type}
def foldS (f : α -> σ -> σ × Bool) : List α -> σ -> σ × Bool
 | [], s => (s, true)
 | x :: r, s => if (f x s).2 then foldS f r (f x s).1 else f x s
theorem foldS_go {f : α -> σ -> σ × Bool} {s s' : σ} : ∀ {l r : List α}, foldS f l s = (s', true) -> foldS f (l ++ r) s = foldS f r s' := by
 intro l
 induction l generalizing s with
 | nil => intro r h; simp only [foldS, Prod.mk.injEq, and_true] at h; subst h; rfl
 | cons x l ih =>
  intro r h
  simp only [List.cons_append, foldS] at h ⊢
  split at h
  ·rename_i q; rw [if_pos q]; exact ih h
  ·rename_i q; rw [h] at q; exact absurd rfl q
theorem foldS_stop {f : α -> σ -> σ × Bool} {s s' : σ} : ∀ {l r : List α}, foldS f l s = (s', false) -> foldS f (l ++ r) s = (s', false) := by
 intro l
 induction l generalizing s with
 | nil => intro r h; simp [foldS] at h
 | cons x l ih =>
  intro r h
  simp only [List.cons_append, foldS] at h ⊢
  split at h
  ·rename_i q; rw [if_pos q]; exact ih h
  ·rename_i q; rw [if_neg q]; exact h
theorem foldS_take {f : α -> σ -> σ × Bool} {g : Nat -> List α} {s s' : σ} {i n : Nat} (hi : i <= n) (h : foldS f ((List.range i).flatMap g) s = (s', false)) : foldS f ((List.range n).flatMap g) s = (s', false) := by
 obtain ⟨d, rfl⟩ : ∃ d, n = i + d := ⟨n - i, by omega⟩
 rw [List.range_add, List.flatMap_append]
 exact foldS_stop h
theorem foldS_more {f : α -> σ -> σ × Bool} {g : Nat -> List α} {s s' : σ} {i : Nat} (h : foldS f ((List.range i).flatMap g) s = (s', true)) : foldS f ((List.range (i + 1)).flatMap g) s = foldS f (g i) s' := by
 rw [List.range_succ, List.flatMap_append, foldS_go h]
 simp
end
section
variable {α σ : Type}
theorem R_fold {R : List α -> σ -> Prop} {step : α -> σ -> σ × Bool} (hR : ∀ o rem s s', R (o :: rem) s -> step o s = (s', true) -> R rem s') : ∀ (l rem : List α) (s s' : σ), R (l ++ rem) s -> foldS step l s = (s', true) -> R rem s' := by
 intro l
 induction l with
 | nil => intro rem s s' h e; simp only [foldS, Prod.mk.injEq, and_true] at e; subst e; exact h
 | cons o l ih =>
  intro rem s s' h e
  simp only [foldS] at e
  split at e
  ·rename_i q
   refine ih rem _ s' (hR o (l ++ rem) s _ h ?_) e
   rw [<- q]
  ·rename_i q; rw [e] at q; exact absurd rfl q
end
theorem range_cut {α : Type} (g : Nat -> List α) {i n : Nat} (hi : i < n) : (List.range n).flatMap g = (List.range i).flatMap g ++ (g i ++ ((List.range n).drop (i + 1)).flatMap g) := by
 have e : List.range n = List.range i ++ i :: (List.range n).drop (i + 1) := by
  have h1 := (List.take_append_drop i (List.range n)).symm
  rw [List.take_range, Nat.min_eq_left (by omega), List.drop_eq_getElem_cons (by simpa using hi), List.getElem_range] at h1
  exact h1
 conv => lhs; rw [e]
 rw [List.flatMap_append, List.flatMap_cons]
def ordsL (n : Nat) : Nat -> List Nat -> List (List Nat)
 | 0, p => [p]
 | d + 1, p => (List.range n).flatMap fun i => if p.contains i then [] else ordsL n d (p ++ [i])
def Rel (own : Heap -> Nat -> Prop) (h h' : Heap) : Prop := h.next <= h'.next /\ ∀ id, id < h.next -> ¬ own h id -> h'.get id = h.get id /\ ¬ own h' id
theorem Rel.refl (own : Heap -> Nat -> Prop) (h : Heap) : Rel own h h := ⟨Nat.le_refl _, fun _ _ k => ⟨rfl, k⟩⟩
theorem Rel.trans {own : Heap -> Nat -> Prop} {a b d : Heap} (h : Rel own a b) (k : Rel own b d) : Rel own a d :=
 ⟨Nat.le_trans h.1 k.1, fun id hi ho => by
  have h1 := h.2 id hi ho
  have h2 := k.2 id (Nat.lt_of_lt_of_le hi h.1) h1.2
  exact ⟨h2.1.trans h1.1, h2.2⟩⟩
structure OwnOk {σ : Type} (I : σ -> Heap -> Prop) (own : Heap -> Nat -> Prop) : Prop where
 loc : ∀ s h h', I s h -> h.next <= h'.next -> (∀ id, own h id -> h'.get id = h.get id) -> I s h' /\ ∀ id, own h' id -> own h id
 lt : ∀ s h id, I s h -> own h id -> id < h.next
theorem OwnOk.ext {σ : Type} {I : σ -> Heap -> Prop} {own : Heap -> Nat -> Prop} (ok : OwnOk I own) (s : σ) (h h' : Heap) (i : I s h) (x : HExt h h') : I s h' /\ ∀ id, own h' id -> own h id :=
 ok.loc s h h' i x.1 fun id o => x.2 id (ok.lt s h id i o)
def RelE (ex : Nat -> Prop) (own : Heap -> Nat -> Prop) (h h' : Heap) : Prop := h.next <= h'.next /\ ∀ id, id < h.next -> ¬ ex id -> ¬ own h id -> h'.get id = h.get id
theorem Rel.stop {ex : Nat -> Prop} {own : Heap -> Nat -> Prop} {a b d : Heap} (h : Rel own a b) (k : RelE ex own b d) : RelE ex own a d :=
 ⟨Nat.le_trans h.1 k.1, fun id hi he ho => by
  have h1 := h.2 id hi ho
  exact (k.2 id (Nat.lt_of_lt_of_le hi h.1) he h1.2).trans h1.1⟩
theorem OwnOk.rel {σ : Type} {I : σ -> Heap -> Prop} {own : Heap -> Nat -> Prop} (ok : OwnOk I own) {s : σ} {h h' : Heap} (i : I s h) (x : HExt h h') : Rel own h h' :=
 ⟨x.1, fun id hi ho => ⟨x.2 id hi, fun k => ho ((ok.ext s h h' i x).2 id k)⟩⟩
def FreeV (own : Heap -> Nat -> Prop) (h : Heap) (a : AV) : Prop := ∀ id off n, a = .row id off n -> ¬ own h id
theorem FreeV.rel {own : Heap -> Nat -> Prop} {h h' : Heap} {a : AV} {sz : Nat} {l : List AV} (r : Rel own h h') (b : Blt h a sz l) (f : FreeV own h a) : Blt h' a sz l /\ FreeV own h' a := by
 rcases b with ⟨rfl, rfl⟩ | ⟨id, rfl, r2, r3, r4⟩
 ·exact ⟨.inl ⟨rfl, rfl⟩, fun id off n e => by cases e⟩
 ·have h1 := r.2 id r3 (f id _ _ rfl)
  exact ⟨.inr ⟨id, rfl, h1.1.trans r2, Nat.lt_of_lt_of_le r3 r.1, r4⟩, fun id' off n e => by cases e; exact h1.2⟩
def stR {σ : Type} (I D : σ -> Heap -> Prop) (own : Heap -> Nat -> Prop) (ex : Nat -> Prop) (h : Heap) (x : σ × Bool) (r : COut) : Prop :=
 ∃ h', r = .ret (.bool x.2) h' none /\ (x.2 = true -> I x.1 h' /\ Rel own h h') /\ (x.2 = false -> D x.1 h' /\ RelE ex own h h')
def stU {σ : Type} (I D : σ -> Heap -> Prop) (own : Heap -> Nat -> Prop) (ex : Nat -> Prop) (h : Heap) (x : σ × Bool) (r : COut) : Prop :=
 ∃ h', r = .ret (.tuple []) h' none /\ (x.2 = true -> I x.1 h' /\ Rel own h h') /\ (x.2 = false -> D x.1 h' /\ RelE ex own h h')
section
variable {σ : Type} {I D : σ -> Heap -> Prop} {own : Heap -> Nat -> Prop} {ex : Nat -> Prop} {h h' : Heap} {x : σ × Bool}
theorem stR_fail : ¬ stR I D own ex h x .fail := by rintro ⟨h', e, _⟩; cases e
theorem stU_fail : ¬ stU I D own ex h x .fail := by rintro ⟨h', e, _⟩; cases e
theorem stR_go {s : σ} (e : x = (s, true)) (i : I s h') (k : Rel own h h') : stR I D own ex h x (.ret (.bool true) h' none) := by
 subst e; exact ⟨h', rfl, fun _ => ⟨i, k⟩, fun e => by cases e⟩
theorem stR_end {s : σ} (e : x = (s, false)) (i : D s h' /\ RelE ex own h h') : stR I D own ex h x (.ret (.bool false) h' none) := by
 subst e; exact ⟨h', rfl, (fun e => by cases e), fun _ => i⟩
theorem stU_go {s : σ} (e : x = (s, true)) (i : I s h') (k : Rel own h h') : stU I D own ex h x (.ret (.tuple []) h' none) := by
 subst e; exact ⟨h', rfl, fun _ => ⟨i, k⟩, fun e => by cases e⟩
theorem stU_end {s : σ} (e : x = (s, false)) (i : D s h' /\ RelE ex own h h') : stU I D own ex h x (.ret (.tuple []) h' none) := by
 subst e; exact ⟨h', rfl, (fun e => by cases e), fun _ => i⟩
theorem stR_or {r : COut} (q : stR I D own ex h x r) : (∃ s h', x = (s, true) /\ r = .ret (.bool true) h' none /\ I s h' /\ Rel own h h') \/ (∃ s h', x = (s, false) /\ r = .ret (.bool false) h' none /\ D s h' /\ RelE ex own h h') := by
 obtain ⟨h', rfl, q1, q2⟩ := q
 obtain ⟨s, b⟩ := x
 cases b
 ·exact .inr ⟨s, h', rfl, rfl, q2 rfl⟩
 ·exact .inl ⟨s, h', rfl, rfl, q1 rfl⟩
theorem stU_or {r : COut} (q : stU I D own ex h x r) : (∃ s h', x = (s, true) /\ r = .ret (.tuple []) h' none /\ I s h' /\ Rel own h h') \/ (∃ s h', x = (s, false) /\ r = .ret (.tuple []) h' none /\ D s h' /\ RelE ex own h h') := by
 obtain ⟨h', rfl, q1, q2⟩ := q
 obtain ⟨s, b⟩ := x
 cases b
 ·exact .inr ⟨s, h', rfl, rfl, q2 rfl⟩
 ·exact .inl ⟨s, h', rfl, rfl, q1 rfl⟩
end
set_option maxHeartbeats 4000000 in
theorem G168 {σ : Type} (I D : σ -> Heap -> Prop) (own : Heap -> Nat -> Prop) (ex : Nat -> Prop) (ok : OwnOk I own) (step : List Nat -> σ -> σ × Bool) (R : List (List Nat) -> σ -> Prop) (hR : ∀ o rem s s', R (o :: rem) s -> step o s = (s', true) -> R rem s') (c : Itr) (hc : c 168 = none) (hc2 : c 116 = some (flatFn sp116)) (hc3 : c 118 = none) (n L bm bn bs : Nat) (hn : n <= 8) (hb : Heap)
  (g1 : hb.get bm = some (.var [.int .i64 ↑n])) (g2 : hb.get bn = some (.var [.yield L])) (g3 : hb.get bs = some (.var [.func (.func 168) [] [.ptr bm 0, .ptr bn 0, .ptr bs 0]])) (l1 : bm < hb.next) (l2 : bn < hb.next) (l3 : bs < hb.next)
  (f1 : ¬ own hb bm) (f2 : ¬ own hb bn) (f3 : ¬ own hb bs)
  (hrd : ∀ s o rem a h, R (o :: rem) s -> I s h -> Rel own hb h -> o.length = n -> NatsLt n o -> Blt h a 1 (natsV o) -> FreeV own h a -> RdR (dX c) L [a] h (stR I D own ex h (step o s))) :
  ∀ d p a h s rem, R (ordsL n d p ++ rem) s -> p.length + d = n -> NatsLt n p -> I s h -> Rel own hb h -> Blt h a 1 (natsV p) -> FreeV own h a -> ClR (dX c) 168 [a, .ptr bm 0, .ptr bn 0, .ptr bs 0] h (stR I D own ex h (foldS step (ordsL n d p) s)) := by
 intro d
 induction d with
 | zero =>
  intro p a h s rem hr0 hd hlt hi hx b hf
  have hR := hrd s p rem a h hr0 hi hx (by omega) hlt b hf
  clear hr0
  have q1 := (hx.2 bm l1 f1).1.trans g1
  have q2 := (hx.2 bn l2 f2).1.trans g2
  have hlen := b.len
  have hout := b.out
  have e1 : (((natsV p).length : Int) == (n : Int)) = true := by rw [natsV_len]; simp; omega
  unfold RdR at hR
  obtain ⟨r, hyl, hq⟩ := hR
  have hs : foldS step (ordsL n 0 p) s = step p s := by
   simp only [ordsL, foldS]
   split
   ·rename_i q; rw [<- q]
   ·rfl
  rw [hs]
  generalize step p s = x at *
  have HL := Lib.hid hlt
  have HR := Lib.hid hrd
  have HX := Lib.hid hx
  have HB := Lib.hid b
  have HF := Lib.hid hf
  have HI := Lib.hid hi
  clear hlt hrd hx b hs g1 g2 g3 hd hf hi f1 f2 f3
  rcases stR_or hq with ⟨s', h', rfl, rfl, k, kr⟩ | ⟨s', h', rfl, rfl, k⟩
  ·have K := Lib.hid k
   have KR := Lib.hid kr
   clear k kr hq
   refine ClR.walk (c := _) hc Tryz.func168 rfl (by kernel_rfl) rfl stR_fail ?_
   simp only [entryEnv, Nat.reduceAdd]
   repeat' (first | (apply WO1.round; exact Z1; exact Z1; (focus (exact hyl)); simp only [pM, pN, rR, rP]) | refine go1 ?_ | refine go2 (fun hh => ?_) (fun hh => ?_) | fail)
   all_goals (simp only [resV_def (X := dX c) Tryz.func168, Tryz.results168]; first | exact J5 | refine J6 ?_)
   exact stR_go rfl K.out KR.out
  ·have K := Lib.hid k
   clear k hq
   refine ClR.walk (c := _) hc Tryz.func168 rfl (by kernel_rfl) rfl stR_fail ?_
   simp only [entryEnv, Nat.reduceAdd]
   repeat' (first | (apply WO1.round; exact Z1; exact Z1; (focus (exact hyl)); simp only [pM, pN, rR, rP]) | refine go1 ?_ | refine go2 (fun hh => ?_) (fun hh => ?_) | fail)
   all_goals (simp only [resV_def (X := dX c) Tryz.func168, Tryz.results168]; first | exact J5 | refine J6 ?_)
   exact stR_end rfl K.out
 | succ d ih =>
  intro p a h s rem hr0 hd hlt hi hx b hf
  have HR0 := Lib.hid hr0
  have HRF := Lib.hid (R_fold hR)
  clear hr0 hR
  have q1 := (hx.2 bm l1 f1).1.trans g1
  have hlen := b.len
  have hout := b.out
  have e1 : (((natsV p).length : Int) == (n : Int)) = false := by rw [natsV_len]; simp; omega
  have HL := Lib.hid hlt
  have HX := Lib.hid hx
  have HB := Lib.hid b
  have HIH := Lib.hid ih
  have HG2 := Lib.hid g2
  have HG3 := Lib.hid g3
  have HG1 := Lib.hid g1
  have HF := Lib.hid hf
  have HI := Lib.hid hi
  have HF3 := Lib.hid f3
  have HOK := Lib.hid ok
  clear hlt hrd hx b g1 g2 g3 ih hf hi f1 f2 f3 ok
  have hs : foldS step (ordsL n (d + 1) p) s = foldS step ((List.range n).flatMap fun i => if p.contains i then [] else ordsL n d (p ++ [i])) s := rfl
  rw [hs]
  clear hs
  refine ClR.walk (c := _) hc Tryz.func168 rfl (by kernel_rfl) rfl stR_fail ?_
  simp only [entryEnv, Nat.reduceAdd]
  repeat' (first | refine goS ?_ | refine go2 (fun hh => ?_) (fun hh => ?_) | fail)
  refine W.loopN n (fun i F => ∃ e hp s', F = Fr.mk 168 false e .nil hp [] none /\ Rel own h hp /\ I s' hp /\ foldS step ((List.range i).flatMap fun i => if p.contains i then [] else ordsL n d (p ++ [i])) s = (s', true) /\ e.get 0 = some a /\ e.get 1 = some (.ptr bm 0) /\ e.get 2 = some (.ptr bn 0) /\ e.get 3 = some (.ptr bs 0) /\ e.get 14 = some (.int .i64 ↑n) /\ e.get 15 = some (.int .i64 ↑i) /\ i <= n) ?_ ?_
  ·refine ⟨_, _, s, rfl, Rel.refl own h, HI.out, rfl, ?_, ?_, ?_, ?_, ?_, ?_, ?_⟩ <;> first | exact Z2 | simp [go_sem, *]
  rintro i F ⟨e, hp, s', rfl, hx0, hi', hno, h0, h1, h2, h3, h14, h15, hi⟩
  have hx1 : Rel own hb hp := HX.out.trans hx0
  have HNO := Lib.hid hno
  have HI' := Lib.hid hi'
  clear hno q1 hi'
  by_cases hin : i < n
  ·have hdl : decide ((i : Int) < (n : Int)) = true := by simpa using hin
   have hw := wrap_succ hin (by unfold maxL; omega)
   have hb0 : Blt hp a 1 (natsV p) := (FreeV.rel hx0 HB.out HF.out).1
   have k116 : ∀ hq : Heap, hq = hp -> Cl (dX c) 116 [a, .int .i64 ↑i] hq (.ret (.bool (p.contains i)) hq none) := fun hq e => by subst e; exact K116 hc2 a p i hq hb0 (by unfold maxL; omega)
   have k116 := k116 hp rfl
   cases hpi : p.contains i with
   | true =>
    rw [hpi] at k116
    clear hb0
    have HX0 := Lib.hid hx0
    clear hx0 hx1
    repeat' (first | (apply W.draw (id := 6) (lc := [0, 1, 2, 3, 4, 5, 6, 7, 8, 9, 10, 11, 12, 13]) (hot := [(5, 7), (5, 10)]); kernel_rfl; kernel_rfl; kernel_rfl; exact Z4) | (refine WD.nil ⟨?_, ?_⟩; rotate_left; simp only [tN, bN, eN, true_and]) | (refine WD.cons rfl rfl ?_) | (refine calm_end) | (refine calmGN (b := false) rfl rfl rfl rfl rfl rfl rfl ?_ rfl ?_; (focus exact Z2)) | refine go1 ?_ | (apply U6; exact Z1; exact Z1; (focus (simp only [List.nil_append, List.append_nil]; first | exact k116)); simp only [pM, pN, rR, rP]) | refine go2 (fun hh => ?_) (fun hh => ?_) | fail)
    refine ⟨hin, _, _, s', rfl, HX0.out, HI'.out, ?_, ?_, ?_, ?_, ?_, ?_, ?_, by omega⟩
    ·rw [foldS_more HNO.out, if_pos hpi]; rfl
    all_goals exact Z2
   | false =>
    rw [hpi] at k116
    have q3 := (hx1.2 bs l3 HF3.out).1.trans HG3.out
    have hcl0 := C118 c hc3 a p hp hb0 (by omega)
    unfold ClR at hcl0
    obtain ⟨r1, hcl, hcr⟩ := hcl0
    unfold clR at hcr
    obtain ⟨v1, hp1, rfl, hB1, hX1⟩ := hcr
    have ho1 := hB1.blt.out
    have hX1e : hp.next <= hp1.next /\ ∀ id, id < hp.next -> hp1.get id = hp.get id := hX1
    have q4 := (hX1.2 bs (Nat.lt_of_lt_of_le l3 hx1.1)).trans q3
    have hll : p.length + (0 + 1) <= most := by unfold most; omega
    have HX0 := Lib.hid hx0
    have HXF := Lib.hid hx1
    have HX1 := Lib.hid hX1
    clear hx0 hx1 hb0
    repeat' (first | (apply W.draw (id := 6) (lc := [0, 1, 2, 3, 4, 5, 6, 7, 8, 9, 10, 11, 12, 13]) (hot := [(5, 7), (5, 10)]); kernel_rfl; kernel_rfl; kernel_rfl; exact Z4) | (apply U6; exact Z1; exact Z1; (focus (exact hcl)); simp only [pM, pN, rR, rP]) | (apply WO1.appendN (t := 39) (u := 39) (e := 3) (e' := 3) (sz := 1) (tl := []) (b := hp.next) (h0 := hp); (focus (exact hB1)); (focus (exact hX1e)); exact Z1; exact rfl; exact Z2; exact Z2; exact Z2; (focus (exact ty_row39)); exact Z1; (focus (intro v hv; simp at hv; subst hv; rfl)); (focus (simp only [natsV_len, List.length_cons, List.length_nil]; exact hll)); (focus (simp)); (intro v2 hp2 hB2 ho2 hX2; simp only [pM, pN])) | (refine WD.nil ⟨?_, ?_⟩; rotate_left; simp only [tN, bN, eN, true_and]) | (refine WD.cons rfl rfl ?_) | refine go1 ?_ | (apply U6; exact Z1; exact Z1; (focus (simp only [List.nil_append, List.append_nil]; first | exact k116)); simp only [pM, pN, rR, rP]) | refine go2 (fun hh => ?_) (fun hh => ?_) | fail)
    have hxe : HExt hp hp2 := ⟨hX2.1, hX2.2⟩
    have hi2 := HOK.out.ext s' hp hp2 HI'.out hxe
    have hr2 : Rel own hp hp2 := HOK.out.rel HI'.out hxe
    have hb2 : Blt hp2 v2 1 (natsV (p ++ [i])) := by simpa [natsV] using hB2.blt
    have hf2 : FreeV own hp2 v2 := fun id off m e ho => by
     rcases hB2 with ⟨e', _⟩ | ⟨id', e', _, h4, _⟩
     ·rw [e'] at e; cases e
     ·rw [e'] at e; cases e
      have := HOK.out.lt s' hp _ HI'.out (hi2.2 _ ho)
      omega
    have hrr : R (ordsL n d (p ++ [i]) ++ (((List.range n).drop (i + 1)).flatMap (fun i => if p.contains i then [] else ordsL n d (p ++ [i])) ++ rem)) s' := by
     have h0 : R ((List.range n).flatMap (fun i => if p.contains i then [] else ordsL n d (p ++ [i])) ++ rem) s := HR0.out
     rw [range_cut _ hin, List.append_assoc] at h0
     have h1 := HRF.out _ _ _ _ h0 HNO.out
     rw [if_neg (by rw [hpi]; simp), List.append_assoc] at h1
     exact h1
    have hrec := HIH.out (p ++ [i]) v2 hp2 s' _ hrr (by simp; omega) (fun k hk => by
     rcases List.mem_append.1 hk with q | q
     ·exact HL.out k q
     ·simp at q; omega) hi2.1 (HXF.out.trans hr2) hb2 hf2
    unfold ClR at hrec
    obtain ⟨r, hrec, hq⟩ := hrec
    have q5 : hp2.get bs = _ := (hX2.2 bs (Nat.lt_of_lt_of_le l3 HXF.out.1)).trans q3
    have HR2 := Lib.hid hr2
    clear hi2 hr2 hb2 hf2 hxe
    rcases stR_or hq with ⟨s3, h3', ex, rfl, k, kr⟩ | ⟨s3, h3', ex, rfl, k⟩
    ·have EX := Lib.hid ex
     have K := Lib.hid k
     have KR := Lib.hid kr
     clear ex k kr hq
     repeat' (first | (refine WD.nil ⟨?_, ?_⟩; rotate_left; simp only [tN, bN, eN, true_and]) | (refine WD.cons rfl rfl ?_) | (refine calm_end) | (refine calmG rfl rfl rfl rfl rfl rfl rfl ?_ ?_ ?_; (focus exact Z2); (focus (first | exact Z2 | exact Z1))) | refine go1 ?_ | (apply U6; exact Z1; exact Z1; (focus (simp only [List.nil_append, List.append_nil]; first | exact hrec)); simp only [pM, pN, rR, rP]) | refine go2 (fun hh => ?_) (fun hh => ?_) | fail)
     refine ⟨hin, _, _, s3, rfl, HX0.out.trans (HR2.out.trans KR.out), K.out, ?_, ?_, ?_, ?_, ?_, ?_, ?_, by omega⟩
     ·rw [foldS_more HNO.out, if_neg (by rw [hpi]; simp)]
      exact EX.out
     all_goals exact Z2
    ·have EX := Lib.hid ex
     have K := Lib.hid k
     clear ex k hq
     repeat' (first | (refine WD.nil ⟨?_, ?_⟩; rotate_left; simp only [tN, bN, eN, true_and]) | (refine WD.cons rfl rfl ?_) | (refine calm_end) | (refine calmG rfl rfl rfl rfl rfl rfl rfl ?_ ?_ ?_; (focus exact Z2); (focus (first | exact Z2 | exact Z1))) | refine go1 ?_ | (apply U6; exact Z1; exact Z1; (focus (simp only [List.nil_append, List.append_nil]; first | exact hrec)); simp only [pM, pN, rR, rP]) | refine go2 (fun hh => ?_) (fun hh => ?_) | fail)
     all_goals (simp only [resV_def (X := dX c) Tryz.func168, Tryz.results168]; first | exact J5 | refine J6 ?_)
     refine stR_end (foldS_take (i := i + 1) hin ?_) ⟨K.out.1, (HX0.out.trans HR2.out).stop K.out.2⟩
     rw [foldS_more HNO.out, if_neg (by rw [hpi]; simp)]
     exact EX.out
  ·have hdl : decide ((i : Int) < (n : Int)) = false := by simpa using hin
   have hin2 : i = n := by omega
   subst hin2
   have HX0 := Lib.hid hx0
   clear hx0 hx1
   repeat' (first | refine goS ?_ | refine go2 (fun hh => ?_) (fun hh => ?_) | fail)
   all_goals (simp only [resV_def (X := dX c) Tryz.func168, Tryz.results168]; first | exact J5 | refine J6 ?_)
   exact stR_go HNO.out HI'.out HX0.out
set_option maxHeartbeats 1000000 in
theorem G167 {σ : Type} (I D : σ -> Heap -> Prop) (own : Heap -> Nat -> Prop) (ex : Nat -> Prop) (ok : OwnOk I own) (step : List Nat -> σ -> σ × Bool) (R : List (List Nat) -> σ -> Prop) (hR : ∀ o rem s s', R (o :: rem) s -> step o s = (s', true) -> R rem s') (c : Itr) (hc : c 167 = none) (hc1 : c 168 = none) (hc2 : c 116 = some (flatFn sp116)) (hc3 : c 118 = none) (n L bm : Nat) (hn : n <= 8) (h : Heap) (s : σ)
  (g1 : h.get bm = some (.var [.int .i64 ↑n])) (l1 : bm < h.next) (f1 : ¬ own h bm) (hi : I s h) (hr0 : R (ordsL n n []) s)
  (hrd : ∀ s o rem a h1, R (o :: rem) s -> I s h1 -> Rel own h h1 -> o.length = n -> NatsLt n o -> Blt h1 a 1 (natsV o) -> FreeV own h1 a -> RdR (dX c) L [a] h1 (stR I D own ex h1 (step o s))) :
  ClR (dX c) 167 [.yield L, .ptr bm 0] h (stU I D own ex h (foldS step (ordsL n n []) s)) := by
 obtain ⟨pn, pm⟩ := h
 simp only at l1
 have hx : HExt ⟨pn, pm⟩ ⟨pn + 1 + 1, ((pm.set pn (.var [.yield L])).set (pn + 1) (.var [.nilfunc])).set (pn + 1) (.var [.func (.func 168) [] [.ptr bm 0, .ptr pn 0, .ptr (pn + 1) 0]])⟩ := by
  refine ⟨by simp only; omega, fun id hid => ?_⟩
  simp only at hid
  rw [hget_set, if_neg (by omega), hget_set, if_neg (by omega), hget_set, if_neg (by omega)]
  rfl
 have hx' := ok.ext s _ _ hi hx
 have hr' := ok.rel hi hx
 have hlt : ∀ id, pn <= id -> ¬ own ⟨pn + 1 + 1, ((pm.set pn (.var [.yield L])).set (pn + 1) (.var [.nilfunc])).set (pn + 1) (.var [.func (.func 168) [] [.ptr bm 0, .ptr pn 0, .ptr (pn + 1) 0]])⟩ id := fun id hid ho => by
  have := ok.lt s _ id hi (hx'.2 id ho)
  simp only at this
  omega
 have hrec := G168 I D own ex ok step R hR c hc1 hc2 hc3 n L bm pn (pn + 1) hn ⟨pn + 1 + 1, ((pm.set pn (.var [.yield L])).set (pn + 1) (.var [.nilfunc])).set (pn + 1) (.var [.func (.func 168) [] [.ptr bm 0, .ptr pn 0, .ptr (pn + 1) 0]])⟩
  ((hx.2 bm l1).trans g1) (by rw [hget_set, if_neg (by omega), hget_set, if_neg (by omega), hget_set, if_pos rfl]) (by rw [hget_set, if_pos rfl]) (by simp only; omega) (by simp only; omega) (by simp only; omega)
  (hr'.2 bm l1 f1).2 (hlt _ (Nat.le_refl _)) (hlt _ (Nat.le_succ _))
  (fun s o rem a h1 q i k => hrd s o rem a h1 q i (hr'.trans k)) n [] .nilslice _ s [] (by rw [List.append_nil]; exact hr0) (by simp) (fun k hk => by simp at hk) hx'.1 (Rel.refl _ _) Blt.nil (fun id off n e => by cases e)
 unfold ClR at hrec
 obtain ⟨r, hrec, hq⟩ := hrec
 have HR' := Lib.hid hr'
 clear hx hx' hr' hlt g1 hrd hi f1 ok hr0 hR
 rcases stR_or hq with ⟨s', h', ex, rfl, k, kr⟩ | ⟨s', h', ex, rfl, k⟩
 ·have EX := Lib.hid ex
  have K := Lib.hid k
  have KR := Lib.hid kr
  clear ex k kr hq
  refine ClR.walk (c := _) hc Tryz.func167 rfl (by kernel_rfl) rfl stU_fail ?_
  simp only [entryEnv, Nat.reduceAdd]
  repeat' (first | (apply U6; exact Z1; exact Z1; (focus (exact hrec)); simp only [pM, pN, rR, rP]) | refine go1 ?_ | refine go2 (fun hh => ?_) (fun hh => ?_) | fail)
  all_goals (simp only [resV_def (X := dX c) Tryz.func167, Tryz.results167]; first | exact J5 | refine J6 ?_)
  exact stU_go EX.out K.out (HR'.out.trans KR.out)
 ·have EX := Lib.hid ex
  have K := Lib.hid k
  clear ex k hq
  refine ClR.walk (c := _) hc Tryz.func167 rfl (by kernel_rfl) rfl stU_fail ?_
  simp only [entryEnv, Nat.reduceAdd]
  repeat' (first | (apply U6; exact Z1; exact Z1; (focus (exact hrec)); simp only [pM, pN, rR, rP]) | refine go1 ?_ | refine go2 (fun hh => ?_) (fun hh => ?_) | fail)
  all_goals (simp only [resV_def (X := dX c) Tryz.func167, Tryz.results167]; first | exact J5 | refine J6 ?_)
  exact stU_end EX.out ⟨K.out.1, HR'.out.stop K.out.2⟩
end Go.AM
namespace Go.AM
open Go Go.Proofs
variable [Keep]
attribute [local irreducible] W WO WO1 WD WQ WT thenQ blockQ endR isRet retK Cl ClR
attribute [local irreducible] roundQ RdR clR
def offB (off : Int) (p q : Pt) : Bool := okPt off ⟨w64 (p.x - q.x), w64 (p.y - q.y)⟩
def accB (off : Int) (hs ps : List Pt) (t : Int) (o : List Nat) : Bool := (List.range hs.length).all fun i => offB off (turnP t (ps.getD (o.getD i 0) ⟨0, 0⟩)) (hs.getD i ⟨0, 0⟩)
def matchS (off : Int) (hs ps : List Pt) : Option (Nat × List Nat) := (List.range 8).findSome? fun t : Nat => (srch ps.length (accB off hs ps (t : Nat)) ps.length []).map fun o => ((t : Nat), o)
theorem all_not {n i : Nat} {f : Nat -> Bool} (hi : i < n) (h : f i = false) : (List.range n).all f = false := by
 rw [Bool.eq_false_iff]
 intro e
 have := List.all_eq_true.1 e i (by simpa using hi)
 rw [h] at this
 cases this
theorem all_yes {n : Nat} {f : Nat -> Bool} (h : ∀ j, j < n -> f j = true) : (List.range n).all f = true := List.all_eq_true.2 fun j hj => h j (by simpa using hj)
theorem W.rangeEnds {X : Ctx} {F : Fr} {Q : Out -> Prop} {g : Operand} {params : Array Tmp} {assign body : Code} {fid : FuncId} {first capt : List AV} {R : COut -> Prop} (hg : F.opv g = some (.func (.func fid) first capt))
  (hc : ClR X fid ((first ++ [.yield F.hp.next]) ++ capt) (F.hp.new (.loop F.f (F.e.map noBox) params.toList assign body .ready none)) R)
  (h : ∀ r, Cl X fid ((first ++ [.yield F.hp.next]) ++ capt) (F.hp.new (.loop F.f (F.e.map noBox) params.toList assign body .ready none)) r -> R r -> W X (.rangeFunc g params assign body) F Q) : W X (.rangeFunc g params assign body) F Q := by
 unfold ClR at hc
 obtain ⟨r, h1, h2⟩ := hc
 exact h r h1 h2
theorem acc_no {off : Int} {hs ps : List Pt} {t : Int} {o : List Nat} {i : Nat} {p q : Pt} {v : Nat} (hi : hs[i]? = some q) (ho : o[i]? = some v) (hp : ps[v]? = some p) (h : offB off (turnP t p) q = false) : accB off hs ps t o = false := by
 have hil : i < hs.length := by
  rcases Nat.lt_or_ge i hs.length with h' | h'
  ·exact h'
  ·rw [List.getElem?_eq_none h'] at hi; cases hi
 refine all_not hil ?_
 simp only [List.getD, hi, ho, hp, Option.getD_some]
 exact h
theorem off_at {off : Int} {hs ps : List Pt} {t : Int} {o : List Nat} {i : Nat} {p q : Pt} {v : Nat} (hi : hs[i]? = some q) (ho : o[i]? = some v) (hp : ps[v]? = some p) : offB off (turnP t (ps.getD (o.getD i 0) ⟨0, 0⟩)) (hs.getD i ⟨0, 0⟩) = offB off (turnP t p) q := by
 simp only [List.getD, hi, ho, hp, Option.getD_some]
end Go.AM
namespace Go.AM
open Go
variable [Keep]
theorem W.unroll {X : Ctx} {F : Fr} {Q : Out -> Prop} {body : Code} (h : W X body F (thenQ (fun F' => W X (.loop body) F' Q) Q)) : W X (.loop body) F Q := by
 obtain ⟨o, ⟨n, hn⟩, hq⟩ := h
 cases o with
 | norm F' =>
  obtain ⟨o2, ⟨n2, hn2⟩, hq2⟩ := hq
  exact ⟨o2, Ev.step ⟨max n n2, fun m hm => by simp [evStep, hn m (by omega), hn2 m (by omega)]⟩, hq2⟩
 | exit i F' => exact ⟨_, Ev.step ⟨n, fun m hm => by simp only [evStep, hn m hm]⟩, hq⟩
 | ret F' => exact ⟨_, Ev.step ⟨n, fun m hm => by simp only [evStep, hn m hm]⟩, hq⟩
 | pan v F' => exact ⟨_, Ev.step ⟨n, fun m hm => by simp only [evStep, hn m hm]⟩, hq⟩
 | fail => exact ⟨_, Ev.step ⟨n, fun m hm => by simp only [evStep, hn m hm]⟩, hq⟩
theorem W.only {X : Ctx} {F : Fr} {Q : Out -> Prop} {c : Code} {t : Tmp} {v : AV} (_ : F.e.get t = some v) (h : W X c F Q) : W X c F Q := h
theorem W.rangeExit {X : Ctx} {F : Fr} {Q : Out -> Prop} {g : Operand} {params : Array Tmp} {assign body : Code} {fid : FuncId} {first capt ps : List AV} {v : AV} {h : Heap} {up : Option (AV × Bool)} {f : FuncId} {e : Mp AV} {pl : List Tmp} {a b : Code} {st : LoopState} {i : Nat}
  (hr : F.rnd = false) (hg : F.opv g = some (.func (.func fid) first capt))
  (hc : Cl X fid ((first ++ [.yield F.hp.next]) ++ capt) (F.hp.new (.loop F.f (F.e.map noBox) params.toList assign body .ready none)) (.ret v h up))
  (hb : h.get F.hp.next = some (.loop f e pl a b st (some (.exit i)))) (hs : st ≠ .busy)
  (hq : Q (.exit i { F with hp := h.put F.hp.next (.loop f e pl a b .exhausted (some (.exit i))) })) : W X (.rangeFunc g params assign body) F Q := by
 obtain ⟨n, hn⟩ := hc
 refine ⟨_, Ev.step ⟨n, fun m hm => ?_⟩, hq⟩
 simp only [evStep, hr, Bool.false_eq_true, if_false, hg, hn m hm, hb, if_neg hs]
theorem roundQ_exit {X : Ctx} {id i : Nat} {R : COut -> Prop} {F : Fr} : roundQ X id R (.exit i F) ↔ R (endV id F .done (some (.exit i)) false) := Iff.rfl
end Go.AM
namespace Go.AM
open Go Go.Proofs
variable [Keep]
attribute [local irreducible] W WO WO1 WD WQ WT thenQ blockQ endR isRet retK Cl ClR
attribute [local irreducible] DefR
structure Bx where
 x : Sp
 y : Sp
 deriving DecidableEq
def bxC : Cd Bx where
 enc b := .agg [.int .i64 b.x.lo, .int .i64 b.x.hi, .int .i64 b.y.lo, .int .i64 b.y.hi]
 dec a := match a with | .agg [.int .i64 x, .int .i64 y, .int .i64 z, .int .i64 w] => some ⟨⟨x, y⟩, ⟨z, w⟩⟩ | _ => none
 de _ := rfl
 ed a x h := by split at h <;> cases h; rfl
 pur _ := rfl
def nowB (err : Int) (s p : Pt) : Bx := ⟨⟨w64 (w64 (p.x - s.x) - err), w64 (w64 (p.x - s.x) + err)⟩, ⟨w64 (w64 (p.y - s.y) - err), w64 (w64 (p.y - s.y) + err)⟩⟩
def goB : List Bx -> Bx -> Option Bx
 | [], x => some x
 | n :: r, x => if empS (interS x.x n.x) || empS (interS x.y n.y) then none else goB r ⟨interS x.x n.x, interS x.y n.y⟩
def boxS : List Bx -> Option Bx
 | [] => some ⟨⟨0, 0⟩, ⟨0, 0⟩⟩
 | n :: r => goB (n :: r) n
def okOrd (hl : Nat) (os : List Int) : Bool := os.all fun o => decide (0 <= o) && decide (o < (hl : Int))
def tvO (t : TypeId) (m : Int) : Bool := decide (m <= 65536) && (decide (t = 217) || decide (t = 215))
def tvP (t : TypeId) (m : Int) (p : Pt) : Pt := (turnedV t m p).getD p
theorem tv_some {t : TypeId} {m : Int} (h : tvO t m = true) (p : Pt) : turnedV t m p = some (tvP t m p) := by
 simp only [tvO, Bool.and_eq_true, Bool.or_eq_true, decide_eq_true_eq] at h
 unfold tvP turnedV
 rw [if_pos h.1]
 rcases h.2 with rfl | rfl
 ·rfl
 ·rfl
def nowsB (err : Int) (t : TypeId) (m : Int) (ss hs : List Pt) (os : List Int) : List Bx := (List.range ss.length).map fun i => nowB err (ss.getD i ⟨0, 0⟩) (tvP t m (hs.getD (os.getD i 0).toNat ⟨0, 0⟩))
def boxV : Option Bx -> AV
 | none => .tuple [.agg [.int .i64 0, .int .i64 0, .int .i64 0, .int .i64 0], .bool false]
 | some b => .tuple [bxC.enc b, .bool true]
theorem boxV_flat (b : Option Bx) : (boxV b).flat = true := by cases b <;> rfl
def sp164 : List AV -> Option AV
 | [sa, .agg [ha, .int .i64 err], .iface t (.int .i64 m), oa] => match slV ptC sa, slV ptC ha, slV intC oa with
  | some ss, some hs, some os => if (decide (ss.length = os.length) && okOrd hs.length os && tvO t m) = true then some (boxV (boxS (nowsB err t m ss hs os))) else none
  | _, _, _ => none
 | _ => none
theorem p164 : ∀ args v, sp164 args = some v -> v.flat = true := by
 intro args v h
 unfold sp164 at h
 split at h
 ·split at h
  ·split at h
   ·cases h; exact boxV_flat _
   ·cases h
  ·cases h
 ·cases h
noncomputable def cHB : Itr
 | 95 => some (pureFn sp95)
 | 190 => some (pureFn sp190)
 | _ => none
theorem cHB_sound : Sound (dX cHB) := dX_sound (fun f g h => by
 unfold cHB at h
 split at h
 ·cases h; exact F95
 ·cases h; exact F190
 ·cases h)
theorem ia169p_0 (H : Heap) (id off : Nat) : indexAddrV Tryz.prog H 169 (.ptr id off) (.int .i64 0) = some (.ptr id off) := by
 simp only [indexAddrV, Tryz.underlying169, ty_lay48]; rfl
theorem ia169p_1 (H : Heap) (id off : Nat) : indexAddrV Tryz.prog H 169 (.ptr id off) (.int .i64 1) = some (.ptr id (off + 2)) := by
 simp only [indexAddrV, Tryz.underlying169, ty_lay48]; rfl
theorem D192n (n : Nat) (m : Mp Blk) (Q : Heap -> Option AV -> Prop) (q : Q ⟨n, m⟩ none) : DefR (dX cHB) [(.func (.func 192) [] [.ptr 0 0, .ptr 1 0], [])] ⟨n, m⟩ none Q := by
 have q := Lib.hid q
 have hq1 := eql_nn
 have hq2 := eql_in
 refine DefR.cons (g := 192) (X := dX cHB) Tryz.func192 (by kernel_rfl) rfl (by kernel_rfl) rfl ?_
 simp only [entryEnv, Nat.reduceAdd, List.nil_append, List.append_nil, Option.map_none]
 repeat' (first | (apply U5; exact rfl; (focus (intro cl rd; simp only [go_sem, *, Nat.reduceLT, Int.reduceEq, Int.reduceBEq, Int.reduceLE, Int.reduceLT, Nat.reduceAdd, Nat.reduceBEq, Nat.reduceEqDiff, reduceIte, Nat.reduceLeDiff, Nat.reduceMul, Nat.reduceSub, reduceCtorEq, efV, Fr.callOp, Fr.builtinE, Fr.recoverE, reduceIte, Bool.false_eq_true]; with_reducible rfl)); simp only [pM, pN]) | (simp only [endDef_norm]) | refine go1 ?_ | refine go2 (fun hh => ?_) (fun hh => ?_) | fail)
 refine DefR.nil ?_
 exact q.out
theorem D192p (n : Nat) (m : Mp Blk) (a b c d : AV) (x : Int) (Q : Heap -> Option AV -> Prop) (hg : m.get 0 = some (.var [a, b, c, d])) (hg1 : m.get 1 = some (.var [.bool false])) (q : ∀ m', m'.get 0 = some (.var [.int .i64 0, .int .i64 0, .int .i64 0, .int .i64 0]) -> m'.get 1 = some (.var [.bool false]) -> Q ⟨n, m'⟩ none) :
  DefR (dX cHB) [(.func (.func 192) [] [.ptr 0 0, .ptr 1 0], [])] ⟨n, m⟩ (some (.iface 223 (.agg [.int .i64 x]))) Q := by
 have q := Lib.hid q
 have hq1 := eql_nn
 have hq2 := eql_in
 refine DefR.cons (g := 192) (X := dX cHB) Tryz.func192 (by kernel_rfl) rfl (by kernel_rfl) rfl ?_
 simp only [entryEnv, Nat.reduceAdd, List.nil_append, List.append_nil, Option.map_some]
 repeat' (first | (apply U5; exact rfl; (focus (intro cl rd; simp only [go_sem, *, Nat.reduceLT, Int.reduceEq, Int.reduceBEq, Int.reduceLE, Int.reduceLT, Nat.reduceAdd, Nat.reduceBEq, Nat.reduceEqDiff, reduceIte, Nat.reduceLeDiff, Nat.reduceMul, Nat.reduceSub, reduceCtorEq, efV, Fr.callOp, Fr.builtinE, Fr.recoverE, reduceIte, Bool.false_eq_true]; with_reducible rfl)); simp only [pM, pN]) | (simp only [endDef_norm]) | refine go1 ?_ | refine go2 (fun hh => ?_) (fun hh => ?_) | fail)
 refine DefR.nil ?_
 refine q.out _ ?_ ?_
 ·simp only [go_sem, *, Nat.reduceLT, Int.reduceEq, Int.reduceBEq, Int.reduceLE, Int.reduceLT, Nat.reduceAdd, Nat.reduceBEq, Nat.reduceEqDiff, reduceIte, Nat.reduceLeDiff, Nat.reduceMul, Nat.reduceSub, reduceCtorEq]
 ·simp only [go_sem, *, Nat.reduceLT, Int.reduceEq, Int.reduceBEq, Int.reduceLE, Int.reduceLT, Nat.reduceAdd, Nat.reduceBEq, Nat.reduceEqDiff, reduceIte, Nat.reduceLeDiff, Nat.reduceMul, Nat.reduceSub, reduceCtorEq]
theorem nows_drop {err : Int} {t : TypeId} {m : Int} {ss hs : List Pt} {os : List Int} {i : Nat} {s p : Pt} {o : Nat} (h1 : ss[i]? = some s) (h2 : os[i]? = some (o : Int)) (h3 : hs[o]? = some p) : (nowsB err t m ss hs os).drop i = nowB err s (tvP t m p) :: (nowsB err t m ss hs os).drop (i + 1) := by
 have hi : i < ss.length := by
  rw [List.getElem?_eq_some_iff] at h1; exact h1.1
 have hl : i < (nowsB err t m ss hs os).length := by simpa [nowsB] using hi
 rw [List.drop_eq_getElem_cons hl]
 congr 1
 simp [nowsB, List.getD, h1, h2, h3]
theorem okOrd_at {hl : Nat} {os : List Int} (h : okOrd hl os = true) {i : Nat} {o : Int} (ho : os[i]? = some o) : ∃ v : Nat, o = v /\ v < hl := by
 have := List.all_eq_true.1 h o (List.mem_of_getElem? ho)
 simp only [Bool.and_eq_true, decide_eq_true_eq] at this
 exact ⟨o.toNat, by omega, by omega⟩
def stB (l : List Bx) (i : Nat) (x : Bx) : Prop := if i = 0 then x = ⟨⟨0, 0⟩, ⟨0, 0⟩⟩ else boxS l = goB (l.drop i) x
set_option maxHeartbeats 8000000 in
theorem F164 : IntrFn Tryz.prog 164 (flatFn sp164) := by
 refine flat_fn (X := dX cHB) cHB_sound p164 ?_
 intro args v h
 unfold sp164 at h
 split at h
 ·rename_i sa ha err t m oa
  split at h
  ·rename_i ss hs os hs1 hs2 hs3
   split at h
   ·rename_i hc
    have h := Option.some.inj h
    subst h
    simp only [Bool.and_eq_true, decide_eq_true_eq] at hc
    obtain ⟨⟨hso, hok⟩, htv⟩ := hc
    have hlen := sl_len hs1
    have hout := sl_out hs1
    have hout2 := sl_out hs2
    have hout3 := sl_out hs3
    have hmax := sl_max hs1
    have hstep := fun i s o p => nows_drop (err := err) (t := t) (m := m) (ss := ss) (hs := hs) (os := os) (i := i) (s := s) (p := p) (o := o)
    have hnl : (nowsB err t m ss hs os).length = ss.length := by simp [nowsB]
    generalize nowsB err t m ss hs os = l at hstep hnl
    have HS1 := Lib.hid hs1
    have HS2 := Lib.hid hs2
    have HS3 := Lib.hid hs3
    have HSO := Lib.hid hso
    have HOK := Lib.hid hok
    have HTV := Lib.hid htv
    have HSTEP := Lib.hid hstep
    have HNL := Lib.hid hnl
    clear hs1 hs2 hs3 hso hok htv hstep hnl
    refine ClR.walkD (c := _) rfl Tryz.func164 rfl (by kernel_rfl) rfl ?_
    simp only [entryEnv, Nat.reduceAdd, emptyHp]
    repeat' (first | (apply U5; exact rfl; (focus (intro cl rd; simp only [go_sem, *, Nat.reduceLT, Int.reduceEq, Int.reduceBEq, Int.reduceLE, Int.reduceLT, Nat.reduceAdd, Nat.reduceBEq, Nat.reduceEqDiff, reduceIte, Nat.reduceLeDiff, Nat.reduceMul, Nat.reduceSub, reduceCtorEq, efV, Fr.deferE]; with_reducible rfl)); simp only [pM, pN]) | (apply W.drawQ (id := 5) (l1 := [10, 0, 1, 2, 3, 4, 5, 6, 7, 8, 9]) (l2 := [11]); kernel_rfl; kernel_rfl; kernel_rfl; exact Z4) | (apply W.drawQ (id := 6) (l1 := [17, 0, 1, 2, 3, 4, 5, 6, 7, 8, 9, 10, 11, 12, 13, 14, 15, 16]) (l2 := [18]); kernel_rfl; kernel_rfl; kernel_rfl; exact Z4) | (apply W.drawQ (id := 12) (l1 := [8, 0, 1, 2, 3, 4, 5, 6, 7]) (l2 := [9]); kernel_rfl; kernel_rfl; kernel_rfl; exact Z4) | refine go1 ?_ | refine go2 (fun hh => ?_) (fun hh => ?_) | fail)
    refine W.loopN ss.length (fun i F => ∃ e lm pm x, F = Fr.mk 164 false e lm ⟨2, pm⟩ [(.func (.func 192) [] [.ptr 0 0, .ptr 1 0], [])] none /\ stB l i x /\ pm.get 0 = some (.var [.int .i64 x.x.lo, .int .i64 x.x.hi, .int .i64 x.y.lo, .int .i64 x.y.hi]) /\ pm.get 1 = some (.var [.bool false]) /\
     lm.get 5 = some (0, [ha, .int .i64 err]) /\ e.get 2 = some (.iface t (.int .i64 m)) /\ e.get 3 = some oa /\ e.get 5 = some (.lptr 5 0 0) /\ e.get 8 = some (.ptr 0 0) /\ e.get 9 = some (.ptr 1 0) /\ e.get 17 = some sa /\ e.get 18 = some (.int .i64 ↑ss.length) /\ e.get 19 = some (.int .i64 ↑i) /\ i <= ss.length) ?_ ?_
    ·refine ⟨_, _, _, ⟨⟨0, 0⟩, ⟨0, 0⟩⟩, rfl, by simp [stB], ?_, ?_, ?_, ?_, ?_, ?_, ?_, ?_, ?_, ?_, ?_, ?_⟩ <;> first | exact Z2 | simp [go_sem, *]
    rintro i F ⟨e, lm, pm, x, rfl, hst, g0, g1, hl5, h2, h3, h5, h8, h9, h17, h18, h19, hi⟩
    by_cases hlt : i < ss.length
    ·obtain ⟨s, hs⟩ := get_some hlt
     obtain ⟨o, ho⟩ := get_some (show i < os.length by rw [<- HSO.out]; exact hlt)
     obtain ⟨v, rfl, hv⟩ := okOrd_at HOK.out ho
     obtain ⟨p, hp⟩ := get_some hv
     have hix1 := pts_idx HS1.out hs
     have hix2 := ints_idx HS3.out ho
     have hix3 := pts_idx HS2.out hp
     have HT := Lib.hid (tv_some HTV.out p)
     have hstep := HSTEP.out i s v p hs ho hp
     have hd : decide ((i : Int) < (ss.length : Int)) = true := by simpa using hlt
     have hw := wrap_succ hlt hmax
     have hw0 : IntKind.i64.wrap (0 + 1) = 1 := by decide
     have hw1 : IntKind.i64.wrap (1 + 1) = 2 := by decide
     have ib0 := ia169p_0
     have ib1 := ia169p_1
     have ic0 := ia169_0
     have ic1 := ia169_1
     generalize tvP t m p = q at *
     have hnow : nowB err s q = ⟨⟨w64 (w64 (q.x - s.x) - err), w64 (w64 (q.x - s.x) + err)⟩, ⟨w64 (w64 (q.y - s.y) - err), w64 (w64 (q.y - s.y) + err)⟩⟩ := rfl
     have w1 : IntKind.i64.wrap (q.x - s.x) = w64 (q.x - s.x) := rfl
     have w2 : IntKind.i64.wrap (q.y - s.y) = w64 (q.y - s.y) := rfl
     generalize w64 (q.x - s.x) = dx at *
     generalize w64 (q.y - s.y) = dy at *
     have k190x := fun h => K190 (X := dX cHB) rfl dx err h
     have k190y := fun h => K190 (X := dX cHB) rfl dy err h
     generalize w64 (dx - err) = xl at *
     generalize w64 (dx + err) = xh at *
     generalize w64 (dy - err) = yl at *
     generalize w64 (dy + err) = yh at *
     rw [hnow] at hstep
     obtain ⟨bz, hbz, y, hy, hyb⟩ : ∃ bz : Bool, ((i : Int) == 0) = bz /\ ∃ y : Bx, (y = if bz = true then ⟨⟨xl, xh⟩, ⟨yl, yh⟩⟩ else x) /\ boxS l = goB (l.drop i) y := by
      refine ⟨_, rfl, _, rfl, ?_⟩
      unfold stB at hst
      split at hst
      ·rename_i e; subst e
       rw [if_pos (by rfl)]
       rw [List.drop_zero] at hstep ⊢
       rw [hstep]; rfl
      ·rename_i e; rw [if_neg (by simp; exact e)]; exact hst
     rw [hstep] at hyb
     have HYB := Lib.hid hyb
     clear hyb hstep hst hs ho hp hnow
     by_cases hX : empS (interS y.x ⟨xl, xh⟩) = true
     ·have k191x : ∀ h, Cl (dX cHB) 191 [.int .i64 0, .agg [.int .i64 y.x.lo, .int .i64 y.x.hi], .vslice [.agg [.int .i64 xl, .int .i64 xh]]] h (.pan (.iface 223 (.agg [.int .i64 0])) h none) := fun h => by
       have q := C191 cHB rfl 0 y.x (.vslice [.agg [.int .i64 xl, .int .i64 xh]]) [⟨xl, xh⟩] rfl h
       rw [comR_pan hX] at q
       exact q
      have hno : boxS l = none := by rw [HYB.out]; simp [goB, hX]
      have HNO := Lib.hid hno
      clear hX hno
      cases bz
      all_goals (simp only [Bool.false_eq_true, if_false, if_true] at hy; subst hy)
      all_goals repeat' (first | (refine W.only (t := 14) (v := .int .i64 0) ?_ ?_; exact Z2; apply W.drawP (id := 12) (i := 7) (l1 := [8, 0, 1, 2, 3, 4, 5, 6]) (l2 := [9]); kernel_rfl; kernel_rfl; kernel_rfl; exact rfl; exact rfl; exact Z4) | (refine W.unroll ?_) | (apply Z7 (o := ⟨some 12, .alloc 38, 0, _, _, none⟩); exact rfl; exact rfl; exact Z1; simp only [pM, pN]) | (apply Z7 (o := ⟨some 13, .alloc 169, 0, _, _, none⟩); exact rfl; exact rfl; exact Z1; simp only [pM, pN]) | (apply Z7 (o := ⟨some 15, .alloc 48, 0, _, _, none⟩); exact rfl; exact rfl; exact Z1; simp only [pM, pN]) | (apply W.drawQ (id := 5) (l1 := [10, 0, 1, 2, 3, 4, 5, 6, 7, 8, 9]) (l2 := [11]); kernel_rfl; kernel_rfl; kernel_rfl; exact Z4) | (apply W.drawQ (id := 6) (l1 := [17, 0, 1, 2, 3, 4, 5, 6, 7, 8, 9, 10, 11, 12, 13, 14, 15, 16]) (l2 := [18]); kernel_rfl; kernel_rfl; kernel_rfl; exact Z4) | (apply W.drawQ (id := 12) (l1 := [8, 0, 1, 2, 3, 4, 5, 6, 7]) (l2 := [9]); kernel_rfl; kernel_rfl; kernel_rfl; exact Z4) | (simp only [junkAll, pM, pN, tP, bP, eP, true_and]) | (simp only [endD_pan]) | refine go1 ?_ | (apply U6; exact Z1; exact Z1; (focus (simp only [List.nil_append, List.append_nil]; first | exact K95 rfl _ _ _ _ HT.out _ | exact k190x _ | exact k190y _ | exact k191x _)); simp only [pM, pN, rR, rP]) | refine go2 (fun hh => ?_) (fun hh => ?_) | fail)
      all_goals (apply D192p; exact Z1; exact Z2; intro m' q1 q2; refine afterD_none.2 ?_; rw [HNO.out]; (simp only [resV_def (X := dX cHB) Tryz.func164, Tryz.results164]; first | exact J5 | refine J6 ?_); simp only [boxV])
     ·have hX := by simpa using hX
      by_cases hY : empS (interS y.y ⟨yl, yh⟩) = true
      ·have k191x : ∀ h, Cl (dX cHB) 191 [.int .i64 0, .agg [.int .i64 y.x.lo, .int .i64 y.x.hi], .vslice [.agg [.int .i64 xl, .int .i64 xh]]] h (.ret (.agg [.int .i64 (interS y.x ⟨xl, xh⟩).lo, .int .i64 (interS y.x ⟨xl, xh⟩).hi]) h none) := fun h => by
        have q := C191 cHB rfl 0 y.x (.vslice [.agg [.int .i64 xl, .int .i64 xh]]) [⟨xl, xh⟩] rfl h
        rw [comR_ret hX] at q
        exact q
       have k191y : ∀ h, Cl (dX cHB) 191 [.int .i64 0, .agg [.int .i64 y.y.lo, .int .i64 y.y.hi], .vslice [.agg [.int .i64 yl, .int .i64 yh]]] h (.pan (.iface 223 (.agg [.int .i64 0])) h none) := fun h => by
        have q := C191 cHB rfl 0 y.y (.vslice [.agg [.int .i64 yl, .int .i64 yh]]) [⟨yl, yh⟩] rfl h
        rw [comR_pan hY] at q
        exact q
       have hno : boxS l = none := by rw [HYB.out]; simp [goB, hY]
       have HNO := Lib.hid hno
       clear hX hY hno
       cases bz
       all_goals (first | simp only [Bool.false_eq_true, if_false, if_true] at hy | skip); all_goals subst hy
       all_goals repeat' (first | (refine W.only (t := 14) (v := .int .i64 1) ?_ ?_; exact Z2; apply W.drawP (id := 12) (i := 7) (l1 := [8, 0, 1, 2, 3, 4, 5, 6]) (l2 := [9]); kernel_rfl; kernel_rfl; kernel_rfl; exact rfl; exact rfl; exact Z4) | (refine W.unroll ?_) | (apply Z7 (o := ⟨some 12, .alloc 38, 0, _, _, none⟩); exact rfl; exact rfl; exact Z1; simp only [pM, pN]) | (apply Z7 (o := ⟨some 13, .alloc 169, 0, _, _, none⟩); exact rfl; exact rfl; exact Z1; simp only [pM, pN]) | (apply Z7 (o := ⟨some 15, .alloc 48, 0, _, _, none⟩); exact rfl; exact rfl; exact Z1; simp only [pM, pN]) | (apply W.drawQ (id := 5) (l1 := [10, 0, 1, 2, 3, 4, 5, 6, 7, 8, 9]) (l2 := [11]); kernel_rfl; kernel_rfl; kernel_rfl; exact Z4) | (apply W.drawQ (id := 6) (l1 := [17, 0, 1, 2, 3, 4, 5, 6, 7, 8, 9, 10, 11, 12, 13, 14, 15, 16]) (l2 := [18]); kernel_rfl; kernel_rfl; kernel_rfl; exact Z4) | (apply W.drawQ (id := 12) (l1 := [8, 0, 1, 2, 3, 4, 5, 6, 7]) (l2 := [9]); kernel_rfl; kernel_rfl; kernel_rfl; exact Z4) | (simp only [junkAll, pM, pN, tP, bP, eP, true_and]) | (simp only [endD_pan]) | refine go1 ?_ | (apply U6; exact Z1; exact Z1; (focus (simp only [List.nil_append, List.append_nil]; first | exact K95 rfl _ _ _ _ HT.out _ | exact k190x _ | exact k190y _ | exact k191x _ | exact k191y _)); simp only [pM, pN, rR, rP]) | refine go2 (fun hh => ?_) (fun hh => ?_) | fail)
       all_goals (apply D192p; exact Z1; exact Z2; intro m' q1 q2; refine afterD_none.2 ?_; rw [HNO.out]; (simp only [resV_def (X := dX cHB) Tryz.func164, Tryz.results164]; first | exact J5 | refine J6 ?_); simp only [boxV])
      ·have hY := by simpa using hY
       have k191x : ∀ h, Cl (dX cHB) 191 [.int .i64 0, .agg [.int .i64 y.x.lo, .int .i64 y.x.hi], .vslice [.agg [.int .i64 xl, .int .i64 xh]]] h (.ret (.agg [.int .i64 (interS y.x ⟨xl, xh⟩).lo, .int .i64 (interS y.x ⟨xl, xh⟩).hi]) h none) := fun h => by
        have q := C191 cHB rfl 0 y.x (.vslice [.agg [.int .i64 xl, .int .i64 xh]]) [⟨xl, xh⟩] rfl h
        rw [comR_ret hX] at q
        exact q
       have k191y : ∀ h, Cl (dX cHB) 191 [.int .i64 0, .agg [.int .i64 y.y.lo, .int .i64 y.y.hi], .vslice [.agg [.int .i64 yl, .int .i64 yh]]] h (.ret (.agg [.int .i64 (interS y.y ⟨yl, yh⟩).lo, .int .i64 (interS y.y ⟨yl, yh⟩).hi]) h none) := fun h => by
        have q := C191 cHB rfl 0 y.y (.vslice [.agg [.int .i64 yl, .int .i64 yh]]) [⟨yl, yh⟩] rfl h
        rw [comR_ret hY] at q
        exact q
       have hgo : boxS l = goB (l.drop (i + 1)) ⟨interS y.x ⟨xl, xh⟩, interS y.y ⟨yl, yh⟩⟩ := by rw [HYB.out]; simp [goB, hX, hY]
       have HGO := Lib.hid hgo
       clear hX hY hgo
       cases bz
       all_goals (first | simp only [Bool.false_eq_true, if_false, if_true] at hy | skip); all_goals subst hy
       all_goals repeat' (first | (refine W.unroll ?_) | (apply Z7 (o := ⟨some 12, .alloc 38, 0, _, _, none⟩); exact rfl; exact rfl; exact Z1; simp only [pM, pN]) | (apply Z7 (o := ⟨some 13, .alloc 169, 0, _, _, none⟩); exact rfl; exact rfl; exact Z1; simp only [pM, pN]) | (apply Z7 (o := ⟨some 15, .alloc 48, 0, _, _, none⟩); exact rfl; exact rfl; exact Z1; simp only [pM, pN]) | (apply W.drawQ (id := 5) (l1 := [10, 0, 1, 2, 3, 4, 5, 6, 7, 8, 9]) (l2 := [11]); kernel_rfl; kernel_rfl; kernel_rfl; exact Z4) | (apply W.drawQ (id := 6) (l1 := [17, 0, 1, 2, 3, 4, 5, 6, 7, 8, 9, 10, 11, 12, 13, 14, 15, 16]) (l2 := [18]); kernel_rfl; kernel_rfl; kernel_rfl; exact Z4) | (apply W.drawQ (id := 12) (l1 := [8, 0, 1, 2, 3, 4, 5, 6, 7]) (l2 := [9]); kernel_rfl; kernel_rfl; kernel_rfl; exact Z4) | refine go1 ?_ | (apply U6; exact Z1; exact Z1; (focus (simp only [List.nil_append, List.append_nil]; first | exact K95 rfl _ _ _ _ HT.out _ | exact k190x _ | exact k190y _ | exact k191x _ | exact k191y _)); simp only [pM, pN, rR, rP]) | refine go2 (fun hh => ?_) (fun hh => ?_) | fail)
       all_goals (refine ⟨hlt, _, _, _, _, rfl, (by simp only [stB, Nat.add_one_ne_zero, if_false]; exact HGO.out), ?_, ?_, ?_, ?_, ?_, ?_, ?_, ?_, ?_, ?_, ?_, by omega⟩ <;> exact Z2)
    ·have hd : decide ((i : Int) < (ss.length : Int)) = false := by simpa using hlt
     have hil : i = ss.length := by omega
     have hx : boxS l = some x := by
      unfold stB at hst
      rw [hil] at hst
      split at hst
      ·rename_i e
       have : l = [] := List.length_eq_zero_iff.1 (by rw [HNL.out]; exact e)
       rw [this, hst]; rfl
      ·rw [hst, <- HNL.out, List.drop_length]; rfl
     have HX := Lib.hid hx
     subst hil
     clear hst hx
     repeat' (first | (refine Y7 ?_; simp only [endD_ret]) | (apply W.drawQ (id := 5) (l1 := [10, 0, 1, 2, 3, 4, 5, 6, 7, 8, 9]) (l2 := [11]); kernel_rfl; kernel_rfl; kernel_rfl; exact Z4) | (apply W.drawQ (id := 6) (l1 := [17, 0, 1, 2, 3, 4, 5, 6, 7, 8, 9, 10, 11, 12, 13, 14, 15, 16]) (l2 := [18]); kernel_rfl; kernel_rfl; kernel_rfl; exact Z4) | (apply W.drawQ (id := 12) (l1 := [8, 0, 1, 2, 3, 4, 5, 6, 7]) (l2 := [9]); kernel_rfl; kernel_rfl; kernel_rfl; exact Z4) | refine go1 ?_ | refine go2 (fun hh => ?_) (fun hh => ?_) | fail)
     refine D192n _ _ _ (afterD_none.2 ?_)
     rw [HX.out]
     (simp only [resV_def (X := dX cHB) Tryz.func164, Tryz.results164]; first | exact J5 | refine J6 ?_)
     simp only [boxV, bxC]
   ·cases h
  ·cases h
 ·cases h
end Go.AM
namespace Go.AM
open Go Go.Proofs
variable [Keep]
attribute [local irreducible] W WO WO1 WD WQ WT thenQ blockQ endR isRet retK Cl ClR
attribute [local irreducible] roundQ RdR clR
section
variable {σ : Type} {I D : σ -> Heap -> Prop} {own : Heap -> Nat -> Prop} (ok : OwnOk I own) {s s4 : σ} {h1 hq h' : Heap} {L1 : Nat} {bl : Blk}
include ok
theorem rnd_in (i : I s h1) (hn : hq.next = h1.next) (hg : ∀ j, j ≠ L1 -> hq.get j = h1.get j) (fL : ¬ own h1 L1) : I s hq /\ ∀ id, own hq id -> own h1 id :=
 ok.loc s h1 hq i (Nat.le_of_eq hn.symm) fun id ho => hg id (fun e => fL (e ▸ ho))
theorem back_put (i : I s4 h') (fL : ¬ own h' L1) : I s4 (h'.put L1 bl) /\ ∀ id, own (h'.put L1 bl) id -> own h' id :=
 ok.loc s4 h' _ i (Nat.le_refl _) fun id ho => by
  rw [Heap.get_put, if_neg (by rintro rfl; exact fL ho)]
theorem back_go (i : I s h1) (hn : hq.next = h1.next) (hg : ∀ j, j ≠ L1 -> hq.get j = h1.get j) (hL : h1.get L1 = some bl) (fL : ¬ own h1 L1) (lL : L1 < h1.next) (i4 : I s4 h') (kr : Rel own hq h') : I s4 (h'.put L1 bl) /\ Rel own h1 (h'.put L1 bl) := by
 obtain ⟨_, b2⟩ := rnd_in ok i hn hg fL
 have f' : ¬ own h' L1 := (kr.2 L1 (by rw [hn]; exact lL) (fun ho => fL (b2 _ ho))).2
 obtain ⟨c1, c2⟩ := back_put ok (bl := bl) i4 f'
 refine ⟨c1, ?_, fun id hid ho => ?_⟩
 ·show h1.next <= h'.next
  rw [<- hn]; exact kr.1
 ·have q := kr.2 id (by rw [hn]; exact hid) (fun k => ho (b2 _ k))
  refine ⟨?_, fun k => q.2 (c2 _ k)⟩
  rw [Heap.get_put]
  split
  ·rename_i e; subst e; exact hL.symm
  ·rename_i e; rw [q.1]; exact hg id (fun e' => e e'.symm)
theorem back_stop {L : Nat} (i : I s h1) (hn : hq.next = h1.next) (hg : ∀ j, j ≠ L1 -> hq.get j = h1.get j) (fL : ¬ own h1 L1) (kr : RelE (fun id => id = L) own hq h') : RelE (fun id => id = L \/ id = L1) own h1 (h'.put L1 bl) := by
 obtain ⟨_, b2⟩ := rnd_in ok i hn hg fL
 refine ⟨?_, fun id hid he ho => ?_⟩
 ·show h1.next <= h'.next
  rw [<- hn]; exact kr.1
 ·have e1 : id ≠ L := fun e => he (.inl e)
  have e2 : id ≠ L1 := fun e => he (.inr e)
  rw [Heap.get_put, if_neg (fun e => e2 e.symm), kr.2 id (by rw [hn]; exact hid) e1 (fun k => ho (b2 _ k))]
  exact hg id e2
theorem rel_in {h0 : Heap} (i : I s h1) (hn : hq.next = h1.next) (hg : ∀ j, j ≠ L1 -> hq.get j = h1.get j) (fL : ¬ own h1 L1) (r : Rel own h0 h1) (lt : h0.next <= L1) : Rel own h0 hq := by
 obtain ⟨_, b2⟩ := rnd_in ok i hn hg fL
 refine ⟨by rw [hn]; exact r.1, fun id hid ho => ?_⟩
 have q := r.2 id hid ho
 exact ⟨(hg id (by omega)).trans q.1, fun k => q.2 (b2 _ k)⟩
theorem fin_go {h0 : Heap} (lt : h0.next <= L1) (r : Rel own h0 h') (i4 : I s4 h') (fL : ¬ own h' L1) : I s4 (h'.put L1 bl) /\ Rel own h0 (h'.put L1 bl) := by
 obtain ⟨c1, c2⟩ := back_put ok (bl := bl) i4 fL
 refine ⟨c1, r.1, fun id hid ho => ?_⟩
 have q := r.2 id hid ho
 exact ⟨by rw [Heap.get_put, if_neg (by omega)]; exact q.1, fun k => q.2 (c2 _ k)⟩
end
section
variable {α β σ : Type}
def optS (f : α -> Option β) (step : β -> σ -> σ × Bool) (a : α) (s : σ) : σ × Bool := match f a with | none => (s, true) | some y => step y s
theorem foldS_fm (f : α -> Option β) (step : β -> σ -> σ × Bool) : ∀ (l : List α) (s : σ), foldS (optS f step) l s = foldS step (l.filterMap f) s := by
 intro l
 induction l with
 | nil => intro s; rfl
 | cons a l ih =>
  intro s
  cases hf : f a with
  | none => simp [foldS, optS, hf, ih]
  | some y => simp [foldS, optS, hf, ih]
end
theorem of_tv {k : Nat} (h : k < 8) : ∃ t n, ofV (k : Nat) = .iface t (.int .i64 n) /\ tvO t n = true /\ ∀ p, tvP t n p = turnP (k : Nat) p := by
 by_cases h4 : (k : Int) < 4
 ·refine ⟨217, k, by simp [ofV, h4], ?_, fun p => ?_⟩
  ·simp [tvO]; omega
  ·unfold tvP turnedV turnP
   rw [if_pos (by omega), if_pos rfl, if_pos h4]; rfl
 ·have hw : w64 ((k : Int) - 4) = k - 4 := wrap_small (by omega) (by omega)
  refine ⟨215, k - 4, by simp [ofV, h4, hw], ?_, fun p => ?_⟩
  ·simp [tvO]; omega
  ·unfold tvP turnedV turnP
   rw [if_pos (by omega), if_neg (by decide), if_pos rfl, if_neg h4, hw]; rfl
def boxOn (err : Int) (ss hs : List Pt) (t : Nat) (o : List Nat) : Option Bx := boxS ((List.range ss.length).map fun i => nowB err (ss.getD i ⟨0, 0⟩) (turnP (t : Nat) (hs.getD (o.getD i 0) ⟨0, 0⟩)))
def boxT (err : Int) (ss hs : List Pt) (t : Nat) : List Bx := (ordsL ss.length ss.length []).filterMap (boxOn err ss hs t)
def boxL (err : Int) (ss hs : List Pt) : List Bx := (List.range 8).flatMap (boxT err ss hs)
theorem K164 {X : Ctx} (hX : X.intr 164 = some (flatFn sp164)) (sa ha a : AV) (ss hs : List Pt) (err : Int) (k : Nat) (o : List Nat) (h : Heap) (hl : slV ptC sa = some ss) (hr : slV ptC ha = some hs) (hk : k < 8) (ho : o.length = ss.length) (hlt : NatsLt hs.length o) (b : Blt h a 1 (natsV o)) (hm : o.length <= maxL) :
  Cl X 164 [sa, .agg [ha, .int .i64 err], ofV (k : Nat), a] h (.ret (boxV (boxOn err ss hs k o)) h none) := by
 obtain ⟨t, n, e1, e2, e3⟩ := of_tv hk
 have e4 := b.seen (natsV_pur o)
 have e5 : slV intC (slN (natsV o)) = some (o.map fun k : Nat => (k : Int)) := by
  rw [natsV_ints]
  exact slV_slN (by simpa using hm)
 have e6 : okOrd hs.length (o.map fun k : Nat => (k : Int)) = true := by
  refine List.all_eq_true.2 fun x hx => ?_
  obtain ⟨v, hv, rfl⟩ := List.mem_map.1 hx
  have := hlt v hv
  simp; omega
 have e7 : nowsB err t n ss hs (o.map fun k : Nat => (k : Int)) = (List.range ss.length).map fun i => nowB err (ss.getD i ⟨0, 0⟩) (turnP (k : Nat) (hs.getD (o.getD i 0) ⟨0, 0⟩)) := by
  unfold nowsB
  refine List.map_congr_left fun i hi => ?_
  have hi' : i < o.length := by rw [ho]; simpa using hi
  rw [e3]
  congr 3
  simp [List.getD, List.getElem?_eq_getElem hi']
 rw [e1]
 refine Cl.intr hX ?_
 simp only [flatFn, viewVs, e4, view_pur (sl_pur hl), view_pur (a := .agg [ha, .int .i64 err]) (by simp [AV.pur, AV.purL, sl_pur hr]), view_pur (a := .iface t (.int .i64 n)) rfl, sp164, hl, hr, e5]
 rw [if_pos (by simp [e6, e2, ho]), e7]
 rfl
theorem C113 (c : Itr) (hc : c 113 = none) (sa ha : AV) (err : Int) (ss hs : List Pt) (hl : slV ptC sa = some ss) (hr : slV ptC ha = some hs) (pn : Nat) (pm : Mp Blk) :
  Cl (dX c) 113 [sa, .agg [ha, .int .i64 err]] ⟨pn, pm⟩ (.ret (.func (.func 163) [] [.ptr pn 0, .ptr (pn + 1) 0]) ⟨pn + 1 + 1, (pm.set pn (.var [sa])).set (pn + 1) (.var [ha, .int .i64 err])⟩ none) := by
 have o1 := sl_out hl
 have o2 := sl_out hr
 have t1 := (slV_is hl).1.tup
 have t2 := (slV_is hr).1.tup
 have c1 : sa.cells = [sa] := by rcases (slV_is hl).1 with ⟨rfl | rfl, _⟩ | rfl <;> rfl
 simp only [AV.cells] at c1
 simp only [isTuple] at t1 t2
 clear hl hr
 refine ClR.cl ?_
 refine ClR.walk (c := _) hc Tryz.func113 rfl (by kernel_rfl) rfl (fun e => by cases e) ?_
 simp only [entryEnv, Nat.reduceAdd]
 repeat' (first | refine goS ?_ | refine go2 (fun hh => ?_) (fun hh => ?_) | fail)
 all_goals (simp only [resV_def (X := dX c) Tryz.func113, Tryz.results113]; first | exact J5 | refine J6 ?_)
 have e1 : ∀ (h : Heap) f a b, frz1 h (.func f a b) = some (.func f a b, h) := fun _ _ _ _ => rfl
 simp only [isR, frzRes, dX_frz, dFrz, freeze, frz2, e1, if_true]
set_option maxHeartbeats 8000000 in
theorem G163 {σ : Type} (I D : σ -> Heap -> Prop) (own : Heap -> Nat -> Prop) (ok : OwnOk I own) (step : Bx -> σ -> σ × Bool) (R : List Bx -> σ -> Prop) (hR : ∀ y rem s s', R (y :: rem) s -> step y s = (s', true) -> R rem s') (c : Itr) (hc : c 163 = none) (hc121 : c 121 = none) (hc167 : c 167 = none) (hc168 : c 168 = none) (hc116 : c 116 = some (flatFn sp116)) (hc118 : c 118 = none)
  (hc96 : c 96 = some (pureFn sp96)) (hc164 : c 164 = some (flatFn sp164)) (L b0 b1 : Nat) (sa ha : AV) (err : Int) (ss hs : List Pt) (hl : slV ptC sa = some ss) (hr : slV ptC ha = some hs) (hsl : hs.length = ss.length) (hn1 : 1 <= ss.length) (hn8 : ss.length <= 8) (h : Heap) (s : σ)
  (g0 : h.get b0 = some (.var [sa])) (g1 : h.get b1 = some (.var [ha, .int .i64 err])) (l0 : b0 < h.next) (l1 : b1 < h.next) (lL : L < h.next) (f0 : ¬ own h b0) (f1 : ¬ own h b1) (hi : I s h) (hr0 : R (boxL err ss hs) s)
  (hD : ∀ s h id b f e ps a d st p, D s h -> id ≠ L -> h.get id = some (.loop f e ps a d st p) -> D s (h.put id b))
  (hrd : ∀ s y rem h1, R (y :: rem) s -> I s h1 -> Rel own h h1 -> RdR (dX c) L [bxC.enc y] h1 (stR I D own (fun id => id = L) h1 (step y s))) :
  ClR (dX c) 163 [.yield L, .ptr b0 0, .ptr b1 0] h (stU I D own (fun id => id = L) h (foldS step (boxL err ss hs) s)) := by
 obtain ⟨pn, pm⟩ := h
 simp only at l0 l1 lL
 have hx : HExt ⟨pn, pm⟩ ⟨pn + 1, pm.set pn (.var [.yield L])⟩ := by
  refine ⟨by simp only; omega, fun id hid => ?_⟩
  simp only at hid
  rw [hget_set, if_neg (by omega)]
  rfl
 have hi' := ok.ext s _ _ hi hx
 have hr' := ok.rel hi hx
 have g0' := (hr'.2 b0 l0 f0).1.trans g0
 have g1' := (hr'.2 b1 l1 f1).1.trans g1
 have gp : Heap.get ⟨pn + 1, pm.set pn (.var [.yield L])⟩ pn = some (.var [.yield L]) := by rw [hget_set, if_pos rfl]
 have f0' := (hr'.2 b0 l0 f0).2
 have f1' := (hr'.2 b1 l1 f1).2
 have fp : ¬ own ⟨pn + 1, pm.set pn (.var [.yield L])⟩ pn := fun ho => by
  have := ok.lt s _ pn hi (hi'.2 pn ho)
  simp only at this
  omega
 have hi0 := hi'.1
 have hrd0 : ∀ s y rem h1, R (y :: rem) s -> I s h1 -> Rel own ⟨pn + 1, pm.set pn (.var [.yield L])⟩ h1 -> RdR (dX c) L [bxC.enc y] h1 (stR I D own (fun id => id = L) h1 (step y s)) := fun s y rem h1 q i k => hrd s y rem h1 q i (hr'.trans k)
 have o1 := sl_out hl
 have o2 := sl_out hr
 have ln1 := sl_len hl
 have t1 := (slV_is hl).1.tup
 have t2 := (slV_is hr).1.tup
 simp only [isTuple] at t1 t2
 have HR' := Lib.hid hr'
 have HI0 := Lib.hid hi0
 have HRD := Lib.hid hrd0
 have HG0 := Lib.hid g0'
 have HG1 := Lib.hid g1'
 have HGP := Lib.hid gp
 have HL := Lib.hid hl
 have HR := Lib.hid hr
 have HSL := Lib.hid hsl
 have HD := Lib.hid hD
 have HR0 := Lib.hid (show R ((List.range 8).flatMap (boxT err ss hs)) s from hr0)
 have HRS := Lib.hid hR
 have HRF := Lib.hid (R_fold hR)
 clear hr0 hR hrd hrd0 hi hi' hi0 hr' hx g0 g1 g0' g1' gp hl hr hsl hD
 have hbl : boxL err ss hs = (List.range 8).flatMap (boxT err ss hs) := rfl
 rw [hbl]
 clear hbl
 generalize hres : foldS step ((List.range 8).flatMap (boxT err ss hs)) s = res
 have HRES := Lib.hid hres
 clear hres
 refine ClR.walk (c := _) hc Tryz.func163 rfl (by kernel_rfl) rfl stU_fail ?_
 simp only [entryEnv, Nat.reduceAdd]
 repeat' (first | refine goS ?_ | refine go2 (fun hh => ?_) (fun hh => ?_) | fail)
 refine W.loopN 8 (fun k F => ∃ e hp s', F = Fr.mk 163 false e .nil hp [] none /\ Rel own ⟨pn + 1, pm.set pn (.var [.yield L])⟩ hp /\ I s' hp /\ foldS step ((List.range k).flatMap (boxT err ss hs)) s = (s', true) /\ e.get 1 = some (.ptr b0 0) /\ e.get 2 = some (.ptr b1 0) /\ e.get 3 = some (.ptr pn 0) /\ e.get 8 = some (.int .i64 ↑k) /\ k <= 8) ?_ ?_
 ·refine ⟨_, _, s, rfl, Rel.refl _ _, HI0.out, rfl, ?_, ?_, ?_, ?_, ?_⟩ <;> first | exact Z2 | simp [go_sem, *]
 rintro k F ⟨e, ⟨qn, qm⟩, s', rfl, hrel, hi, hfo, h1, h2, h3, h8, hk⟩
 have HREL := Lib.hid hrel
 have HI := Lib.hid hi
 have HFO := Lib.hid hfo
 have hqn : pn + 1 <= qn := hrel.1
 clear hfo hi
 by_cases hlt : k < 8
 ·have hd : decide ((k : Int) < 8) = true := by simp; omega
  have hw := wrap_succ (m := 8) hlt (by unfold maxL; omega)
  have v0 := (hrel.2 b0 (by simp only; omega) f0').1.trans HG0.out
  have v1 := (hrel.2 b1 (by simp only; omega) f1').1.trans HG1.out
  have vp := (hrel.2 pn (by simp only; omega) fp).1.trans HGP.out
  simp only [hp_get] at v0 v1 vp
  have n0 : (qn == b0) = false := beq_eq_false_iff_ne.2 (by omega)
  have n1 : (qn == b1) = false := beq_eq_false_iff_ne.2 (by omega)
  have np : (qn == pn) = false := beq_eq_false_iff_ne.2 (by omega)
  have m0 : (qn + 1 == b0) = false := beq_eq_false_iff_ne.2 (by omega)
  have m1 : (qn + 1 == b1) = false := beq_eq_false_iff_ne.2 (by omega)
  have mp : (qn + 1 == pn) = false := beq_eq_false_iff_ne.2 (by omega)
  have mq : (qn + 1 == qn) = false := beq_eq_false_iff_ne.2 (by omega)
  clear hrel
  repeat' (first | (refine W.label ?_; simp only [tN, bN, eN, true_and]) | refine go1 ?_ | (apply U6; exact Z1; exact Z1; (focus (simp only [List.nil_append, List.append_nil]; first | exact C121 c hc121 _ _ _)); simp only [pM, pN, rR, rP]) | refine go2 (fun hh => ?_) (fun hh => ?_) | fail)
  have X2 : ∀ blk, HExt ⟨qn, qm⟩ (Heap.new ⟨qn + 1 + 1, ((qm.set qn (.var [.int .i64 0])).set qn (.var [.int .i64 ↑k])).set (qn + 1) (.var [.int .i64 ↑ss.length])⟩ blk) := fun blk => by
   refine ⟨by simp only [Heap.new]; omega, fun id hid => ?_⟩
   simp only at hid
   rw [Heap.get_new, if_neg (by simp only; omega), hget_set, if_neg (by omega), hget_set, if_neg (by omega), hget_set, if_neg (by omega)]
   rfl
  have I2 := fun blk => (ok.ext s' _ _ HI.out (X2 blk)).1
  have R2 := fun blk => ok.rel HI.out (X2 blk)
  have F2 : ∀ blk id, qn <= id -> ¬ own (Heap.new ⟨qn + 1 + 1, ((qm.set qn (.var [.int .i64 0])).set qn (.var [.int .i64 ↑k])).set (qn + 1) (.var [.int .i64 ↑ss.length])⟩ blk) id := fun blk id hid ho => by
   have := ok.lt s' _ id HI.out ((ok.ext s' _ _ HI.out (X2 blk)).2 id ho)
   simp only at this
   omega
  have N2 : ∀ blk, (Heap.new ⟨qn + 1 + 1, ((qm.set qn (.var [.int .i64 0])).set qn (.var [.int .i64 ↑k])).set (qn + 1) (.var [.int .i64 ↑ss.length])⟩ blk).next = qn + 1 + 1 + 1 := fun _ => rfl
  have GQ : ∀ blk, (Heap.new ⟨qn + 1 + 1, ((qm.set qn (.var [.int .i64 0])).set qn (.var [.int .i64 ↑k])).set (qn + 1) (.var [.int .i64 ↑ss.length])⟩ blk).get qn = some (.var [.int .i64 ↑k]) := fun blk => by
   rw [Heap.get_new, if_neg (by simp only; omega), hget_set, if_neg (by omega), hget_set, if_pos rfl]
  have GQ1 : ∀ blk, (Heap.new ⟨qn + 1 + 1, ((qm.set qn (.var [.int .i64 0])).set qn (.var [.int .i64 ↑k])).set (qn + 1) (.var [.int .i64 ↑ss.length])⟩ blk).get (qn + 1) = some (.var [.int .i64 ↑ss.length]) := fun blk => by
   rw [Heap.get_new, if_neg (by simp only; omega), hget_set, if_pos rfl]
  have GL : ∀ blk, (Heap.new ⟨qn + 1 + 1, ((qm.set qn (.var [.int .i64 0])).set qn (.var [.int .i64 ↑k])).set (qn + 1) (.var [.int .i64 ↑ss.length])⟩ blk).get (qn + 1 + 1) = some blk := fun blk => by
   rw [Heap.get_new, if_pos rfl]
  apply W.rangeEnds (R := stU I (fun s h' => D s h' /\ ∃ f e ps a b, h'.get (qn + 1 + 1) = some (.loop f e ps a b .done (some .ret))) own (fun id => id = L \/ id = qn + 1 + 1) _ (foldS (optS (boxOn err ss hs k) step) (ordsL ss.length ss.length []) s'))
  ·exact Z1
  ·have hrr : R ((ordsL ss.length ss.length []).filterMap (boxOn err ss hs k) ++ ((List.range 8).drop (k + 1)).flatMap (boxT err ss hs)) s' := by
    have h0 := HR0.out
    rw [range_cut _ hlt] at h0
    exact HRF.out _ _ _ _ h0 HFO.out
   have hRin : ∀ o rem s s', R ((o :: rem).filterMap (boxOn err ss hs k) ++ ((List.range 8).drop (k + 1)).flatMap (boxT err ss hs)) s -> optS (boxOn err ss hs k) step o s = (s', true) -> R (rem.filterMap (boxOn err ss hs k) ++ ((List.range 8).drop (k + 1)).flatMap (boxT err ss hs)) s' := by
    intro o rem s s' h e
    unfold optS at e
    cases hb : boxOn err ss hs k o with
    | none =>
     rw [hb] at e
     simp only [Prod.mk.injEq, and_true] at e
     subst e
     rw [List.filterMap_cons_none hb] at h
     exact h
    | some y =>
     rw [hb] at e
     rw [List.filterMap_cons_some hb] at h
     exact HRS.out y _ _ _ h e
   refine G167 I (fun s h' => D s h' /\ ∃ f e ps a b, h'.get (qn + 1 + 1) = some (.loop f e ps a b .done (some .ret))) own (fun id => id = L \/ id = qn + 1 + 1) ok (optS (boxOn err ss hs k) step) (fun rem s => R (rem.filterMap (boxOn err ss hs k) ++ ((List.range 8).drop (k + 1)).flatMap (boxT err ss hs)) s) hRin c hc167 hc168 hc116 hc118 ss.length (qn + 1 + 1) (qn + 1) hn8 _ s' (GQ1 _) (by rw [N2]; omega) (F2 _ _ (by omega)) (I2 _) hrr ?_
   intro s3 o rem a h1' hrem i3 kx ho hltn hB hF
   have kL := kx.2 (qn + 1 + 1) (by rw [N2]; omega) (F2 _ _ (by omega))
   have hL := kL.1.trans (GL _)
   have fL := kL.2
   have lL1 : qn + 1 + 1 < h1'.next := Nat.lt_of_lt_of_le (by rw [N2]; omega) kx.1
   have rel1 : Rel own ⟨pn + 1, pm.set pn (.var [.yield L])⟩ h1' := HREL.out.trans ((R2 _).trans kx)
   have w0 := (rel1.2 b0 (by simp only; omega) f0').1.trans HG0.out
   have w1 := (rel1.2 b1 (by simp only; omega) f1').1.trans HG1.out
   have wp := (rel1.2 pn (by simp only; omega) fp).1.trans HGP.out
   have wq := (kx.2 qn (by rw [N2]; omega) (F2 _ _ (Nat.le_refl _))).1.trans (GQ _)
   obtain ⟨er, hE, hL⟩ : ∃ er, er = _ /\ h1'.get (qn + 1 + 1) = some (.loop 163 er _ _ _ .ready none) := ⟨_, rfl, hL⟩
   have r1 : er.get 1 = some (.ptr b0 0) := by rw [hE, Mp.get_map]; simp [go_sem, *, noBox]
   have r2 : er.get 2 = some (.ptr b1 0) := by rw [hE, Mp.get_map]; simp [go_sem, *, noBox]
   have r3 : er.get 3 = some (.ptr pn 0) := by rw [hE, Mp.get_map]; simp [go_sem, *, noBox]
   have r4 : er.get 4 = some (.ptr qn 0) := by rw [hE, Mp.get_map]; simp [go_sem, *, noBox]
   obtain ⟨id, rfl, hrow, hid, hne⟩ : ∃ id, a = .row id 0 ss.length /\ h1'.get id = some (.rw 1 (natsV o)) /\ id < h1'.next /\ natsV o ≠ [] := by
    rcases hB with ⟨_, e⟩ | ⟨id, q1, q2, q3, q4⟩
    ·have := congrArg List.length e
     rw [natsV_len] at this
     simp at this
     rw [this] at ho
     simp at ho
     omega
    ·exact ⟨id, by rw [natsV_len, ho] at q1; exact q1, q2, q3, q4⟩
   have hidL : id ≠ qn + 1 + 1 := fun e => by rw [e, hL] at hrow; cases hrow
   have HHL := Lib.hid hL
   have HREM := Lib.hid hrem
   have HKX := Lib.hid kx
   clear hrem hrr hRin
   have HREL1 := Lib.hid rel1
   have HI3 := Lib.hid i3
   have HFL := Lib.hid fL
   refine round_ok' hL rfl ?_
   clear hE hL kL fL rel1 i3 kx X2 I2 R2 F2 N2 GQ GQ1 GL h1 h2 h3 h8 v0 v1 vp hF hB
   repeat' (first | refine goS ?_ | refine go2 (fun hh => ?_) (fun hh => ?_) | fail)
   rintro ⟨zn, zm⟩ hqn hqg hqL
   obtain ⟨t, n, ho1, _, _⟩ := of_tv hlt
   have k96 : ∀ h, Cl (dX c) 96 [.int .i64 ↑k] h (.ret (.iface t (.int .i64 n)) h none) := fun h => by
    have := K96 (X := dX c) hc96 k h
    rw [ho1] at this
    exact this
   have q0 := (hqg b0 (by omega)).trans w0
   have q1 := (hqg b1 (by omega)).trans w1
   have qp := (hqg pn (by omega)).trans wp
   have qq := (hqg qn (by omega)).trans wq
   have qi := (hqg id hidL).trans hrow
   have k164 := K164 (X := dX c) hc164 sa ha (.row id 0 ss.length) ss hs err k o ⟨zn, zm⟩ HL.out HR.out hlt ho (by rw [HSL.out]; exact hltn) (.inr ⟨id, by rw [natsV_len, ho], qi, by rw [hqn]; exact hid, hne⟩) (by unfold maxL; omega)
   rw [ho1] at k164
   have bi := rnd_in ok HI3.out hqn hqg HFL.out
   have bg : ∀ s4 h', I s4 h' -> Rel own ⟨zn, zm⟩ h' -> _ := fun s4 h' => back_go ok (s4 := s4) (h' := h') HI3.out hqn hqg HHL.out HFL.out lL1
   have bs : ∀ h' bl, RelE (fun id => id = L) own ⟨zn, zm⟩ h' -> _ := fun h' bl => back_stop ok (L := L) (h' := h') (bl := bl) HI3.out hqn hqg HFL.out
   have ri := rel_in ok HI3.out hqn hqg HFL.out HREL1.out (by simp only; omega)
   have lq : qn + 1 + 1 < zn := by rw [show zn = h1'.next from hqn]; exact lL1
   have HBI := Lib.hid bi
   have HBG := Lib.hid bg
   have HBS := Lib.hid bs
   have HRI := Lib.hid ri
   have HQL := Lib.hid hqL
   simp only [hp_get] at q0 q1 qp qq qi
   clear hqn hqg hqL w0 w1 wp wq hrow bi bg bs ri ho hltn hne hid ho1
   cases hbx : boxOn err ss hs k o with
   | none =>
    rw [hbx] at k164
    simp only [boxV] at k164
    have HBX := Lib.hid hbx
    clear hbx
    repeat' (first | (apply Z7 (o := ⟨some 6, .alloc 169, 0, _, _, none⟩); exact rfl; exact rfl; exact Z1; simp only [pM, pN]) | (apply W.drawQ (id := 6) (l1 := [9, 0, 1, 2, 3, 4, 5, 6, 7, 8]) (l2 := [10, 11]); kernel_rfl; kernel_rfl; kernel_rfl; exact Z4) | refine go1 ?_ | (apply U6; exact Z1; exact Z1; (focus (simp only [List.nil_append, List.append_nil]; first | exact k96 _ | exact k164)); simp only [pM, pN, rR, rP]) | refine go2 (fun hh => ?_) (fun hh => ?_) | fail)
    rw [roundQ_norm]
    simp only [endV, HQL.out]
    have := HBG.out s3 _ HBI.out.1 (Rel.refl _ _)
    exact stR_go (by simp [optS, HBX.out]) this.1 this.2
   | some y =>
    rw [hbx] at k164
    simp only [boxV, bxC] at k164
    have HBX := Lib.hid hbx
    have hyl := HRD.out s3 y _ _ (by have := HREM.out; rw [List.filterMap_cons_some HBX.out] at this; exact this) HBI.out.1 HRI.out
    unfold RdR at hyl
    obtain ⟨r, hyl, hq⟩ := hyl
    simp only [bxC] at hyl
    clear hbx
    rcases stR_or hq with ⟨s4, h', ex, rfl, i4, kr⟩ | ⟨s4, h', ex, rfl, d4, ke⟩
    ·have EX := Lib.hid ex
     have HL4 := Lib.hid ((kr.2 (qn + 1 + 1) lq (fun k => HFL.out (HBI.out.2 _ k))).1.trans HQL.out)
     have HI4 := Lib.hid i4
     have HKR := Lib.hid kr
     clear ex hq i4 kr
     repeat' (first | (apply Z7 (o := ⟨some 6, .alloc 169, 0, _, _, none⟩); exact rfl; exact rfl; exact Z1; simp only [pM, pN]) | (apply W.drawQ (id := 6) (l1 := [9, 0, 1, 2, 3, 4, 5, 6, 7, 8]) (l2 := [10, 11]); kernel_rfl; kernel_rfl; kernel_rfl; exact Z4) | (apply WO1.round; exact Z1; exact Z1; (focus (exact hyl)); simp only [pM, pN, rR, rP]) | refine go1 ?_ | (apply U6; exact Z1; exact Z1; (focus (simp only [List.nil_append, List.append_nil]; first | exact k96 _ | exact k164)); simp only [pM, pN, rR, rP]) | refine go2 (fun hh => ?_) (fun hh => ?_) | fail)
     rw [roundQ_norm]
     simp only [endV, HL4.out]
     have := HBG.out s4 _ HI4.out HKR.out
     exact stR_go (by simp [optS, HBX.out, EX.out]) this.1 this.2
    ·have EX := Lib.hid ex
     have HL4 := Lib.hid ((ke.2 (qn + 1 + 1) lq (by omega) (fun k => HFL.out (HBI.out.2 _ k))).trans HQL.out)
     have HD4 := Lib.hid d4
     have HKE := Lib.hid ke
     clear ex hq d4 ke
     repeat' (first | (apply Z7 (o := ⟨some 6, .alloc 169, 0, _, _, none⟩); exact rfl; exact rfl; exact Z1; simp only [pM, pN]) | (apply W.drawQ (id := 6) (l1 := [9, 0, 1, 2, 3, 4, 5, 6, 7, 8]) (l2 := [10, 11]); kernel_rfl; kernel_rfl; kernel_rfl; exact Z4) | (apply WO1.round; exact Z1; exact Z1; (focus (exact hyl)); simp only [pM, pN, rR, rP]) | refine go1 ?_ | (apply U6; exact Z1; exact Z1; (focus (simp only [List.nil_append, List.append_nil]; first | exact k96 _ | exact k164)); simp only [pM, pN, rR, rP]) | refine go2 (fun hh => ?_) (fun hh => ?_) | fail)
     rw [roundQ_ret]
     simp only [endV, HL4.out]
     refine stR_end (s := s4) (by simp [optS, HBX.out, EX.out]) ⟨⟨HD.out _ _ _ _ _ _ _ _ _ _ _ HD4.out (by omega) HL4.out, ?_⟩, HBS.out _ _ HKE.out⟩
     exact ⟨_, _, _, _, _, by rw [Heap.get_put, if_pos rfl]⟩
  ·intro r hcl hR
   rcases stU_or hR with ⟨s4, h', ex, rfl, i4, kr⟩ | ⟨s4, h', ex, rfl, ⟨d4, f, e1, ps, a1, c1, hb⟩, ke⟩
   ·have kL := kr.2 (qn + 1 + 1) (by rw [N2]; omega) (F2 _ _ (by omega))
    have hL := kL.1.trans (GL _)
    have hfin := fun bl => fin_go ok (bl := bl) (h0 := ⟨qn, qm⟩) (L1 := qn + 1 + 1) (by simp only; omega) ((R2 _).trans kr) i4 kL.2
    refine W.rangeNorm rfl ?_ hcl hL (fun e => by cases e) ?_
    ·first | exact Z2 | exact Z1
    clear hcl hL
    generalize hput : Heap.put h' _ _ = hz
    have hf : I s4 hz /\ Rel own ⟨qn, qm⟩ hz := by rw [<- hput]; exact hfin _
    have HF := Lib.hid hf
    have EX := Lib.hid ex
    clear hput hfin hf kL kr ex i4 hR X2 I2 R2 F2 N2 GQ GQ1 GL
    simp only [bN, tN]
    repeat' (first | (refine W.label ?_; simp only [tN, bN, eN, true_and]) | refine go1 ?_ | refine go2 (fun hh => ?_) (fun hh => ?_) | fail)
    refine ⟨hlt, _, hz, s4, rfl, HREL.out.trans HF.out.2, HF.out.1, ?_, ?_, ?_, ?_, ?_, by omega⟩
    ·rw [foldS_more HFO.out, boxT, <- foldS_fm]; exact EX.out
    all_goals exact Z2
   ·refine W.rangeRet rfl ?_ hcl hb (fun e => by cases e) ?_
    ·first | exact Z2 | exact Z1
    have hD2 := fun bl => HD.out s4 h' (qn + 1 + 1) bl _ _ _ _ _ _ _ d4 (by omega) hb
    have hE2 := (R2 _).stop ke
    clear hcl
    generalize hput : Heap.put h' _ _ = hz
    have hd2 : D s4 hz := by rw [<- hput]; exact hD2 _
    have hz1 : RelE (fun id => id = L) own ⟨qn, qm⟩ hz := by
     refine ⟨by rw [<- hput]; exact hE2.1, fun id hid he ho => ?_⟩
     simp only at hid
     rw [<- hput, Heap.get_put, if_neg (show ¬ qn + 1 + 1 = id by omega)]
     exact hE2.2 id hid (by rintro (q | q); exact he q; omega) ho
    have HZ1 := Lib.hid hz1
    have HD2 := Lib.hid hd2
    have EX := Lib.hid ex
    clear hput hD2 hE2 hd2 hz1 ex hR X2 I2 R2 F2 N2 GQ GQ1 GL hb ke d4
    simp only [tR, bR, eR, true_and]
    (simp only [resV_def (X := dX c) Tryz.func163, Tryz.results163]; first | exact J5 | refine J6 ?_)
    refine stU_end (s := s4) (HRES.out.symm.trans (foldS_take (i := k + 1) hlt ?_)) ⟨HD2.out, (HR'.out.trans HREL.out).stop HZ1.out⟩
    rw [foldS_more HFO.out, boxT, <- foldS_fm]; exact EX.out
 ·have hd : decide ((k : Int) < 8) = false := by simp; omega
  have hk8 : k = 8 := by omega
  subst hk8
  clear hlt hrel
  repeat' (first | refine goS ?_ | refine go2 (fun hh => ?_) (fun hh => ?_) | fail)
  simp only [eN, true_and]
  all_goals (simp only [resV_def (X := dX c) Tryz.func163, Tryz.results163]; first | exact J5 | refine J6 ?_)
  exact stU_go (HRES.out.symm.trans HFO.out) HI.out (HR'.out.trans HREL.out)
end Go.AM
