/-
  A part of the proof: contracts of functions.
-/
import Derived.Test.YtkpbdjpekjdhcaaGreatDoorXAU
import Derived.Test.YtkpbdjpekjdhcaaGreatDoorXAI
set_option linter.unusedSectionVars false
set_option linter.unusedVariables false
set_option linter.unusedSimpArgs false
set_option maxRecDepth 100000
namespace Go.AM
open Go Go.Proofs
variable [Keep]
attribute [local irreducible] W WO WO1 WD WQ WT thenQ blockQ endR isRet retK Cl ClR
attribute [local irreducible] roundQ RdR
theorem calm_end {X : Ctx} {f : FuncId} {ops : Array Oper} {ts : List (Nat × Trace)} : ([] : List (Nat × Nat)).all (calmPair X f ops ts) = true := rfl
section
variable {X : Ctx} {ops : Array Oper} {K P : AV -> Fr -> Prop} {F : Fr} {d : Option Tmp} {T : TypeId} {p : String} {af : Array Edge}
theorem WO1.append0 {args : Array Operand} {at_ : Array TypeId} {t u e e' : TypeId} {tl : List TypeId} {sz : Nat} {x y : AV} {new : List AV} (hx : x = .vempty \/ x = .nilslice) (hargs : F.opvs args.toList = some [x, y]) (ht : at_.toList = t :: u :: tl) (hu : X.P.underlying u = some (.slice e'))
  (hel : elemT X.P t = some e) (hs : szT X.P e = sz) (hrow : rowable X.P e = true) (hy : F.hp.elems y = some new) (hsz : ∀ v ∈ new, v.cells.length = sz) (hlen : new.length <= most) (hne : new ≠ [])
  (h : K (.row F.hp.next 0 new.length) (({ F with hp := F.hp.new (.rw sz new) } : Fr).put d (.row F.hp.next 0 new.length))) : WO1 X ops ⟨d, .call ⟨.builtin .append, args, at_⟩, T, p, af, none⟩ F K P := by
 subst hs
 have h1 : (new.all fun v => v.cells.length == szT X.P e) = true := List.all_eq_true.2 fun v hv => by simpa using hsz v hv
 have h2 : ¬ new.length = 0 := by simpa using hne
 have e1 : appendV X.P F t x new = some (.row F.hp.next 0 new.length, { F with hp := F.hp.new (.rw (szT X.P e) new) }) := by
  rcases hx with rfl | rfl <;> simp [appendV, hel, h1, hrow, hlen, h2, hne]
 refine U5 (v := .row F.hp.next 0 new.length) (F' := { F with hp := F.hp.new (.rw (szT X.P e) new) }) rfl (fun cl rd => ?_) h
 simp only [efV, Fr.callOp, Fr.builtinE, Fr.appendE, ht, hargs, hu]
 cases y <;> first | (simp only [hy, e1, okO]; done) | simp [Heap.elems] at hy
end
theorem foldS_take {α σ : Type} {f : α -> σ -> σ × Bool} {g : Nat -> List α} {s s' : σ} {i n : Nat} (hi : i <= n) (h : foldS f ((List.range i).flatMap g) s = (s', false)) : foldS f ((List.range n).flatMap g) s = (s', false) := by
 obtain ⟨d, rfl⟩ : ∃ d, n = i + d := ⟨n - i, by omega⟩
 rw [List.range_add, List.flatMap_append]
 exact foldS_stop h
theorem foldS_more {α σ : Type} {f : α -> σ -> σ × Bool} {g : Nat -> List α} {s s' : σ} {i : Nat} (h : foldS f ((List.range i).flatMap g) s = (s', true)) : foldS f ((List.range (i + 1)).flatMap g) s = foldS f (g i) s' := by
 rw [List.range_succ, List.flatMap_append, foldS_go h]
 simp
theorem hget_set {pn : Nat} {pm : Mp Blk} {n i : Nat} {b : Blk} : (Heap.get ⟨pn, pm.set i b⟩ n) = if i = n then some b else Heap.get ⟨pn, pm⟩ n := by
 simp only [hp_get, Mp.get_set]
def clR (h : Heap) (l : List AV) (r : COut) : Prop := ∃ v h', r = .ret v h' none /\ BltN h.next h' v 1 l /\ HExt h h'
theorem clR_fail {h : Heap} {l : List AV} : ¬ clR h l .fail := by rintro ⟨_, _, e, _⟩; cases e
theorem clR_ret {h h' : Heap} {v : AV} {l : List AV} (b : BltN h.next h' v 1 l) (x : HExt h h') : clR h l (.ret v h' none) := ⟨v, h', rfl, b, x⟩
attribute [local irreducible] clR
theorem hext_new' (h : Heap) (b : Blk) : HExt h (h.new b) := ⟨Nat.le_succ _, fun id hi => by rw [Heap.get_new, if_neg (by omega)]⟩
theorem eq24n : binV Tryz.prog .eql 24 true .nilslice .nilslice = some (.bool true) := by
 simp [binV, eqOp, eqV, isSliceT, whenB, Tryz.underlying24]
theorem eq24r (id n : Nat) : binV Tryz.prog .eql 24 true (.row id 0 n) .nilslice = some (.bool false) := by
 simp [binV, eqOp, eqV, isSliceT, whenB, Tryz.underlying24]
theorem C96 (c : Itr) (hc : c 96 = none) (a : AV) (p : List Int) (h : Heap) (b : Blt h a 1 (intsE p)) (hm : p.length <= 1000) : ClR (dX c) 96 [a] h (clR h (intsE p)) := by
 have hsz : ∀ v ∈ intsE p, v.cells.length = 1 := fun v hv => by
  obtain ⟨k, _, rfl⟩ := List.mem_map.1 hv
  rfl
 have hlen : (intsE p).length <= most := by rw [intsE_len]; unfold most; omega
 rcases b with ⟨rfl, hnil⟩ | ⟨id, rfl, hg, hid, hne⟩
 ·have HN := J1 hnil
  have hq := eq24n
  clear hsz hlen hnil
  refine ClR.walk (c := _) hc Tryz.func96 rfl (by kernel_rfl) rfl clR_fail ?_
  try simp only [entryEnv, Nat.reduceAdd, List.nil_append, List.cons_append, emptyHp]
  repeat' (first | refine goS ?_ | (refine go2 ?_ ?_ <;> intro hh) | fail)
  all_goals (simp only [resV_def (X := dX c) Tryz.func96, Tryz.results96]; first | exact J5 | refine J6 ?_)
  rw [HN.out]
  exact clR_ret BltN.nil (HExt.refl h)
 ·have hel : h.elems (.row id 0 (intsE p).length) = some (intsE p) := by simp [Heap.elems, hg]
  have hq := eq24r id (intsE p).length
  have HG := J1 hg
  have HI := J1 hid
  clear hg hid
  refine ClR.walk (c := _) hc Tryz.func96 rfl (by kernel_rfl) rfl clR_fail ?_
  try simp only [entryEnv, Nat.reduceAdd, List.nil_append, List.cons_append, emptyHp]
  repeat' (first | (apply WO1.append0 (t := 24) (u := 24) (e := 3) (e' := 3) (sz := 1) (tl := []) (new := intsE p) (hx := .inl rfl); exact Z1; exact rfl; exact Z2; exact Z2; exact Z2; (focus (exact ty_row24)); (focus (first | exact Z2 | exact hel)); (focus (exact hsz)); (focus (exact hlen)); (focus (exact hne)); simp only [pM, pN]) | refine go1 ?_ | (refine go2 ?_ ?_ <;> intro hh) | fail)
  all_goals (simp only [resV_def (X := dX c) Tryz.func96, Tryz.results96]; first | exact J5 | refine J6 ?_)
  refine clR_ret (.inr ⟨h.next, rfl, ?_, Nat.le_refl _, Nat.lt_succ_self _, hne⟩) (hext_new' _ _)
  rw [Heap.get_new, if_pos rfl]
section
variable {α σ : Type}
theorem R_fold {R : List α -> σ -> Prop} {step : α -> σ -> σ × Bool} (hR : ∀ o rem s s', R (o :: rem) s -> step o s = (s', true) -> R rem s') : ∀ (l rem : List α) (s s' : σ), R (l ++ rem) s -> foldS step l s = (s', true) -> R rem s' := by
 intro l
 induction l with
 | nil => intro rem s s' h e; simp only [foldS, Prod.mk.injEq, and_true] at e; subst e; exact h
 | cons o l ih =>
  intro rem s s' h e
  simp only [foldS] at e
  split at e
  ·rename_i q
   refine ih rem _ s' (hR o (l ++ rem) s _ h ?_) e
   rw [<- q]
  ·rename_i q; rw [e] at q; exact absurd rfl q
end
theorem range_cut {α : Type} (g : Nat -> List α) {i n : Nat} (hi : i < n) : (List.range n).flatMap g = (List.range i).flatMap g ++ (g i ++ ((List.range n).drop (i + 1)).flatMap g) := by
 have e : List.range n = List.range i ++ i :: (List.range n).drop (i + 1) := by
  have h1 := (List.take_append_drop i (List.range n)).symm
  rw [List.take_range, Nat.min_eq_left (by omega), List.drop_eq_getElem_cons (by simpa using hi), List.getElem_range] at h1
  exact h1
 conv => lhs; rw [e]
 rw [List.flatMap_append, List.flatMap_cons]
def Rel (own : Heap -> Nat -> Prop) (h h' : Heap) : Prop := h.next <= h'.next /\ ∀ id, id < h.next -> ¬ own h id -> h'.get id = h.get id /\ ¬ own h' id
theorem Rel.refl (own : Heap -> Nat -> Prop) (h : Heap) : Rel own h h := ⟨Nat.le_refl _, fun _ _ k => ⟨rfl, k⟩⟩
theorem Rel.trans {own : Heap -> Nat -> Prop} {a b d : Heap} (h : Rel own a b) (k : Rel own b d) : Rel own a d :=
 ⟨Nat.le_trans h.1 k.1, fun id hi ho => by
  have h1 := h.2 id hi ho
  have h2 := k.2 id (Nat.lt_of_lt_of_le hi h.1) h1.2
  exact ⟨h2.1.trans h1.1, h2.2⟩⟩
structure OwnOk {σ : Type} (I : σ -> Heap -> Prop) (own : Heap -> Nat -> Prop) : Prop where
 ext : ∀ s h h', I s h -> HExt h h' -> I s h' /\ ∀ id, own h' id -> own h id
 lp : ∀ s h h' L, I s h -> ¬ own h L -> (∀ z r, h.get L ≠ some (.rw z r)) -> h'.next = h.next -> (∀ id, id ≠ L -> h'.get id = h.get id) -> I s h' /\ ∀ id, own h' id -> own h id
 lt : ∀ s h id, I s h -> own h id -> id < h.next
def RelE (ex : Nat -> Prop) (own : Heap -> Nat -> Prop) (h h' : Heap) : Prop := h.next <= h'.next /\ ∀ id, id < h.next -> ¬ ex id -> ¬ own h id -> h'.get id = h.get id
theorem Rel.stop {ex : Nat -> Prop} {own : Heap -> Nat -> Prop} {a b d : Heap} (h : Rel own a b) (k : RelE ex own b d) : RelE ex own a d :=
 ⟨Nat.le_trans h.1 k.1, fun id hi he ho => by
  have h1 := h.2 id hi ho
  exact (k.2 id (Nat.lt_of_lt_of_le hi h.1) he h1.2).trans h1.1⟩
theorem OwnOk.rel {σ : Type} {I : σ -> Heap -> Prop} {own : Heap -> Nat -> Prop} (ok : OwnOk I own) {s : σ} {h h' : Heap} (i : I s h) (x : HExt h h') : Rel own h h' :=
 ⟨x.1, fun id hi ho => ⟨x.2 id hi, fun k => ho ((ok.ext s h h' i x).2 id k)⟩⟩
def FreeV (own : Heap -> Nat -> Prop) (h : Heap) (a : AV) : Prop := ∀ id off n, a = .row id off n -> ¬ own h id
theorem FreeV.rel {own : Heap -> Nat -> Prop} {h h' : Heap} {a : AV} {sz : Nat} {l : List AV} (r : Rel own h h') (b : Blt h a sz l) (f : FreeV own h a) : Blt h' a sz l /\ FreeV own h' a := by
 rcases b with ⟨rfl, rfl⟩ | ⟨id, rfl, r2, r3, r4⟩
 ·exact ⟨.inl ⟨rfl, rfl⟩, fun id off n e => by cases e⟩
 ·have h1 := r.2 id r3 (f id _ _ rfl)
  exact ⟨.inr ⟨id, rfl, h1.1.trans r2, Nat.lt_of_lt_of_le r3 r.1, r4⟩, fun id' off n e => by cases e; exact h1.2⟩
def stR {σ : Type} (I D : σ -> Heap -> Prop) (own : Heap -> Nat -> Prop) (ex : Nat -> Prop) (h : Heap) (x : σ × Bool) (r : COut) : Prop :=
 ∃ h', r = .ret (.bool x.2) h' none /\ (x.2 = true -> I x.1 h' /\ Rel own h h') /\ (x.2 = false -> D x.1 h' /\ RelE ex own h h')
def stU {σ : Type} (I D : σ -> Heap -> Prop) (own : Heap -> Nat -> Prop) (ex : Nat -> Prop) (h : Heap) (x : σ × Bool) (r : COut) : Prop :=
 ∃ h', r = .ret (.tuple []) h' none /\ (x.2 = true -> I x.1 h' /\ Rel own h h') /\ (x.2 = false -> D x.1 h' /\ RelE ex own h h')
section
variable {σ : Type} {I D : σ -> Heap -> Prop} {own : Heap -> Nat -> Prop} {ex : Nat -> Prop} {h h' : Heap} {x : σ × Bool}
theorem stR_fail : ¬ stR I D own ex h x .fail := by rintro ⟨h', e, _⟩; cases e
theorem stU_fail : ¬ stU I D own ex h x .fail := by rintro ⟨h', e, _⟩; cases e
theorem stR_go {s : σ} (e : x = (s, true)) (i : I s h') (k : Rel own h h') : stR I D own ex h x (.ret (.bool true) h' none) := by
 subst e; exact ⟨h', rfl, fun _ => ⟨i, k⟩, fun e => by cases e⟩
theorem stR_end {s : σ} (e : x = (s, false)) (i : D s h' /\ RelE ex own h h') : stR I D own ex h x (.ret (.bool false) h' none) := by
 subst e; exact ⟨h', rfl, (fun e => by cases e), fun _ => i⟩
theorem stU_go {s : σ} (e : x = (s, true)) (i : I s h') (k : Rel own h h') : stU I D own ex h x (.ret (.tuple []) h' none) := by
 subst e; exact ⟨h', rfl, fun _ => ⟨i, k⟩, fun e => by cases e⟩
theorem stU_end {s : σ} (e : x = (s, false)) (i : D s h' /\ RelE ex own h h') : stU I D own ex h x (.ret (.tuple []) h' none) := by
 subst e; exact ⟨h', rfl, (fun e => by cases e), fun _ => i⟩
theorem stR_or {r : COut} (q : stR I D own ex h x r) : (∃ s h', x = (s, true) /\ r = .ret (.bool true) h' none /\ I s h' /\ Rel own h h') \/ (∃ s h', x = (s, false) /\ r = .ret (.bool false) h' none /\ D s h' /\ RelE ex own h h') := by
 obtain ⟨h', rfl, q1, q2⟩ := q
 obtain ⟨s, b⟩ := x
 cases b
 ·exact .inr ⟨s, h', rfl, rfl, q2 rfl⟩
 ·exact .inl ⟨s, h', rfl, rfl, q1 rfl⟩
end
def pathsL (su : List Int -> Int -> Bool) (rl : Nat) : Nat -> List Int -> List (List Int)
 | 0, p => [p]
 | d + 1, p => (List.range (rl + 1)).flatMap fun i : Nat => if su p ((i : Int) - 1) = true then pathsL su rl d (p ++ [(i : Int) - 1]) else []
def PLt (rl : Nat) (p : List Int) : Prop := ∀ x ∈ p, -1 <= x /\ x < (rl : Int)
theorem PLt.app {rl : Nat} {p : List Int} (h : PLt rl p) {i : Nat} (hi : i < rl + 1) : PLt rl (p ++ [(i : Int) - 1]) := fun x hx => by
 rcases List.mem_append.1 hx with q | q
 ·exact h x q
 ·simp at q; omega
set_option maxHeartbeats 8000000 in
theorem G139 {σ : Type} (I D : σ -> Heap -> Prop) (own : Heap -> Nat -> Prop) (ex : Nat -> Prop) (ok : OwnOk I own) (step : List Int -> σ -> σ × Bool) (R : List (List Int) -> σ -> Prop) (hR : ∀ o rem s s', R (o :: rem) s -> step o s = (s', true) -> R rem s') (c : Itr) (hc : c 139 = none) (hc3 : c 96 = none) (n rl L bm bn bp bs : Nat) (hn : n <= 8) (hrl : rl <= 8) (hb : Heap) (ra fa oa ha : AV) (lra : lenS ra = some rl) (ora : outV (some ra) = some ra) (sf : FuncId) (sfi sca : List AV) (su : List Int -> Int -> Bool)
  (g1 : hb.get bm = some (.var [.int .i64 ↑n, ra, fa, oa, ha])) (g2 : hb.get bn = some (.var [.yield L])) (gp : hb.get bp = some (.var [.func (.func sf) sfi sca])) (g3 : hb.get bs = some (.var [.func (.func 139) [] [.ptr bm 0, .ptr bn 0, .ptr bp 0, .ptr bs 0]])) (l1 : bm < hb.next) (l2 : bn < hb.next) (lp : bp < hb.next) (l3 : bs < hb.next)
  (f1 : ¬ own hb bm) (f2 : ¬ own hb bn) (fp : ¬ own hb bp) (f3 : ¬ own hb bs)
  (hsu : ∀ a p (r : Int) h, Rel own hb h -> Blt h a 1 (intsE p) -> p.length < n -> PLt rl p -> -1 <= r -> r < rl -> Cl (dX c) sf ((sfi ++ [a, .int .i64 r]) ++ sca) h (.ret (.bool (su p r)) h none))
  (hrd : ∀ s o rem a h, R (o :: rem) s -> I s h -> Rel own hb h -> o.length = n -> PLt rl o -> Blt h a 1 (intsE o) -> FreeV own h a -> RdR (dX c) L [a] h (stR I D own ex h (step o s))) :
  ∀ d p a h s rem, R (pathsL su rl d p ++ rem) s -> p.length + d = n -> PLt rl p -> I s h -> Rel own hb h -> Blt h a 1 (intsE p) -> FreeV own h a -> ClR (dX c) 139 [a, .ptr bm 0, .ptr bn 0, .ptr bp 0, .ptr bs 0] h (stR I D own ex h (foldS step (pathsL su rl d p) s)) := by
 intro d
 induction d with
 | zero =>
  intro p a h s rem hr0 hd hlt hi hx b hf
  have hR := hrd s p rem a h hr0 hi hx (by omega) hlt b hf
  clear hr0
  have q1 := (hx.2 bm l1 f1).1.trans g1
  have q2 := (hx.2 bn l2 f2).1.trans g2
  have hlen := b.len
  have hout := b.out
  have e1 : (((intsE p).length : Int) == (n : Int)) = true := by rw [intsE_len]; simp; omega
  unfold RdR at hR
  obtain ⟨r, hyl, hq⟩ := hR
  have hs : foldS step (pathsL su rl 0 p) s = step p s := by
   simp only [pathsL, foldS]
   split
   ·rename_i q; rw [<- q]
   ·rfl
  rw [hs]
  generalize step p s = x at *
  have HL := J1 hlt
  have HR := J1 hrd
  have HX := J1 hx
  have HB := J1 b
  have HF := J1 hf
  have HI := J1 hi
  have HSU := J1 hsu
  clear hlt hrd hx b hs g1 g2 g3 gp hd hf hi f1 f2 f3 fp hsu
  rcases stR_or hq with ⟨s', h', rfl, rfl, k, kr⟩ | ⟨s', h', rfl, rfl, k⟩
  ·have K := J1 k
   have KR := J1 kr
   clear k kr hq
   refine ClR.walk (c := _) hc Tryz.func139 rfl (by kernel_rfl) rfl stR_fail ?_
   simp only [entryEnv, Nat.reduceAdd]
   repeat' (first | (apply WO1.round; exact Z1; exact Z1; (focus (exact hyl)); simp only [pM, pN, rR, rP]) | refine go1 ?_ | (refine go2 ?_ ?_ <;> intro hh) | fail)
   all_goals (simp only [resV_def (X := dX c) Tryz.func139, Tryz.results139]; first | exact J5 | refine J6 ?_)
   exact stR_go rfl K.out KR.out
  ·have K := J1 k
   clear k hq
   refine ClR.walk (c := _) hc Tryz.func139 rfl (by kernel_rfl) rfl stR_fail ?_
   simp only [entryEnv, Nat.reduceAdd]
   repeat' (first | (apply WO1.round; exact Z1; exact Z1; (focus (exact hyl)); simp only [pM, pN, rR, rP]) | refine go1 ?_ | (refine go2 ?_ ?_ <;> intro hh) | fail)
   all_goals (simp only [resV_def (X := dX c) Tryz.func139, Tryz.results139]; first | exact J5 | refine J6 ?_)
   exact stR_end rfl K.out
 | succ d ih =>
  intro p a h s rem hr0 hd hlt hi hx b hf
  have HR0 := J1 hr0
  have HRF := J1 (R_fold hR)
  clear hr0 hR
  have q1 := (hx.2 bm l1 f1).1.trans g1
  have hlen := b.len
  have hout := b.out
  have e1 : (((intsE p).length : Int) == (n : Int)) = false := by rw [intsE_len]; simp; omega
  have HL := J1 hlt
  have HX := J1 hx
  have HB := J1 b
  have HIH := J1 ih
  have HG2 := J1 g2
  have HG3 := J1 g3
  have HGP := J1 gp
  have HG1 := J1 g1
  have HF := J1 hf
  have HI := J1 hi
  have HF1 := J1 f1
  have HF3 := J1 f3
  have HFP := J1 fp
  have HOK := J1 ok
  have HSU := J1 hsu
  clear hlt hrd hx b g1 g2 g3 gp ih hf hi f1 f2 f3 fp ok hsu
  have hs : foldS step (pathsL su rl (d + 1) p) s = foldS step ((List.range (rl + 1)).flatMap fun i : Nat => if su p ((i : Int) - 1) = true then pathsL su rl d (p ++ [(i : Int) - 1]) else []) s := rfl
  rw [hs]
  clear hs
  obtain ⟨N, hN⟩ : ∃ N, N = rl + 1 := ⟨_, rfl⟩
  rw [<- hN]
  have HN := J1 hN
  clear hN
  refine ClR.walk (c := _) hc Tryz.func139 rfl (by kernel_rfl) rfl stR_fail ?_
  simp only [entryEnv, Nat.reduceAdd]
  repeat' (first | refine goS ?_ | (refine go2 ?_ ?_ <;> intro hh) | fail)
  refine W.loopN N (fun i F => ∃ e hp s', F = Fr.mk 139 false e .nil hp [] none /\ Rel own h hp /\ I s' hp /\ foldS step ((List.range i).flatMap fun i : Nat => if su p ((i : Int) - 1) = true then pathsL su rl d (p ++ [(i : Int) - 1]) else []) s = (s', true) /\ e.get 0 = some a /\ e.get 1 = some (.ptr bm 0) /\ e.get 2 = some (.ptr bn 0) /\ e.get 3 = some (.ptr bp 0) /\ e.get 4 = some (.ptr bs 0) /\ e.get 7 = some (.int .i64 ((i : Int) - 1)) /\ i <= N) ?_ ?_
  ·refine ⟨_, _, s, rfl, Rel.refl own h, HI.out, rfl, ?_, ?_, ?_, ?_, ?_, ?_, ?_⟩ <;> first | exact Z2 | simp [go_sem, *]
  rintro i F ⟨e, hp, s', rfl, hx0, hi', hno, h0, h1, h2, h3, h4, h7, hi⟩
  have hx1 : Rel own hb hp := HX.out.trans hx0
  have HNO := J1 hno
  have HI' := J1 hi'
  have q1 := (hx1.2 bm l1 HF1.out).1.trans HG1.out
  have qp := (hx1.2 bp lp HFP.out).1.trans HGP.out
  clear hno hi'
  by_cases hin : i < N
  ·have hdl : decide (((i : Int) - 1) < (rl : Int)) = true := by have := HN.out; simp only [decide_eq_true_eq]; omega
   have hw : IntKind.i64.wrap ((i : Int) - 1 + 1) = ((i + 1 : Nat) : Int) - 1 := by
    have := w64_small (n := (i : Int) - 1 + 1) (by omega) (by have := HN.out; omega)
    unfold w64 at this
    rw [this]
    omega
   have hb0 : Blt hp a 1 (intsE p) := (FreeV.rel hx0 HB.out HF.out).1
   have hsuc := HSU.out a p ((i : Int) - 1) hp hx1 hb0 (by omega) HL.out (by omega) (by have := HN.out; omega)
   cases hpi : su p ((i : Int) - 1) with
   | false =>
    rw [hpi] at hsuc
    clear hb0
    have HX0 := J1 hx0
    have HI9 := J1 hi
    clear hx0 hx1 hi
    generalize hj : (i : Int) - 1 = jj at *
    repeat' (first | (apply W.draw (id := 6) (lc := [0, 1, 2, 3, 4, 5, 6, 7, 8, 9, 10, 11, 12, 13]) (hot := [(5, 7), (5, 10)]); kernel_rfl; kernel_rfl; kernel_rfl; exact Z4) | (refine WD.nil ⟨?_, ?_⟩; rotate_left; simp only [tN, bN, eN, true_and]) | (refine WD.cons rfl rfl ?_) | (refine calm_end) | (refine calmGN (b := false) rfl rfl rfl rfl rfl rfl rfl ?_ rfl ?_; (focus exact Z2)) | refine go1 ?_ | (apply U6; exact Z1; exact Z1; (exact hsuc); simp only [pM, pN, rR, rP]) | (refine go2 ?_ ?_ <;> intro hh) | fail)
    refine ⟨hin, _, _, s', rfl, HX0.out, HI'.out, ?_, ?_, ?_, ?_, ?_, ?_, ?_, by omega⟩
    ·rw [foldS_more HNO.out, if_neg (by rw [hj, hpi]; simp)]; rfl
    all_goals exact Z2
   | true =>
    rw [hpi] at hsuc
    have q3 := (hx1.2 bs l3 HF3.out).1.trans HG3.out
    have hcl0 := C96 c hc3 a p hp hb0 (by omega)
    unfold ClR at hcl0
    obtain ⟨r1, hcl, hcr⟩ := hcl0
    unfold clR at hcr
    obtain ⟨v1, hp1, rfl, hB1, hX1⟩ := hcr
    have ho1 := hB1.blt.out
    have hX1e : hp.next <= hp1.next /\ ∀ id, id < hp.next -> hp1.get id = hp.get id := hX1
    have q4 := (hX1.2 bs (Nat.lt_of_lt_of_le l3 hx1.1)).trans q3
    have hll : p.length + (0 + 1) <= most := by unfold most; omega
    have HX0 := J1 hx0
    have HXF := J1 hx1
    have HX1 := J1 hX1
    have HI9 := J1 hi
    clear hx0 hx1 hb0 hi
    have HJ := J1 (rfl : (i : Int) - 1 = (i : Int) - 1)
    generalize hj : (i : Int) - 1 = jj at hdl hw hsuc h7
    have HJJ := J1 hj
    clear hj
    repeat' (first | (apply W.draw (id := 6) (lc := [0, 1, 2, 3, 4, 5, 6, 7, 8, 9, 10, 11, 12, 13]) (hot := [(5, 7), (5, 10)]); kernel_rfl; kernel_rfl; kernel_rfl; exact Z4) | (apply U6; exact Z1; exact Z1; (focus (exact hcl)); simp only [pM, pN, rR, rP]) | (apply WO1.appendN (t := 24) (u := 24) (e := 3) (e' := 3) (sz := 1) (tl := []) (b := hp.next) (h0 := hp); (focus (exact hB1)); (focus (exact hX1e)); exact Z1; exact rfl; exact Z2; exact Z2; exact Z2; (focus (exact ty_row24)); exact Z1; (focus (intro v hv; simp at hv; subst hv; rfl)); (focus (simp only [intsE_len, List.length_cons, List.length_nil]; exact hll)); (focus (simp)); (intro v2 hp2 hB2 ho2 hX2; simp only [pM, pN])) | (refine WD.nil ⟨?_, ?_⟩; rotate_left; simp only [tN, bN, eN, true_and]) | (refine WD.cons rfl rfl ?_) | refine go1 ?_ | (apply U6; exact Z1; exact Z1; (exact hsuc); simp only [pM, pN, rR, rP]) | (refine go2 ?_ ?_ <;> intro hh) | fail)
    have hxe : HExt hp hp2 := ⟨hX2.1, hX2.2⟩
    have hi2 := HOK.out.ext s' hp hp2 HI'.out hxe
    have hr2 : Rel own hp hp2 := HOK.out.rel HI'.out hxe
    have hb2 : Blt hp2 v2 1 (intsE (p ++ [(i : Int) - 1])) := by rw [HJJ.out]; simpa [intsE] using hB2.blt
    have hf2 : FreeV own hp2 v2 := fun id off m e ho => by
     rcases hB2 with ⟨e', _⟩ | ⟨id', e', _, h4, _⟩
     ·rw [e'] at e; cases e
     ·rw [e'] at e; cases e
      have := HOK.out.lt s' hp _ HI'.out (hi2.2 _ ho)
      omega
    have hrr : R (pathsL su rl d (p ++ [(i : Int) - 1]) ++ (((List.range (rl + 1)).drop (i + 1)).flatMap (fun i : Nat => if su p ((i : Int) - 1) = true then pathsL su rl d (p ++ [(i : Int) - 1]) else []) ++ rem)) s' := by
     have h0 : R ((List.range (rl + 1)).flatMap (fun i : Nat => if su p ((i : Int) - 1) = true then pathsL su rl d (p ++ [(i : Int) - 1]) else []) ++ rem) s := HR0.out
     rw [range_cut _ (show i < rl + 1 from HN.out ▸ hin), List.append_assoc] at h0
     have h1 := HRF.out _ _ _ _ h0 HNO.out
     rw [if_pos hpi, List.append_assoc] at h1
     exact h1
    have hrec := HIH.out (p ++ [(i : Int) - 1]) v2 hp2 s' _ hrr (by simp; omega) (HL.out.app (show i < rl + 1 from HN.out ▸ hin)) hi2.1 (HXF.out.trans hr2) hb2 hf2
    unfold ClR at hrec
    obtain ⟨r, hrec, hq⟩ := hrec
    have q5 : hp2.get bs = _ := (hX2.2 bs (Nat.lt_of_lt_of_le l3 HXF.out.1)).trans q3
    have HR2 := J1 hr2
    clear hi2 hr2 hb2 hf2 hxe
    rcases stR_or hq with ⟨s3, h3', ex, rfl, k, kr⟩ | ⟨s3, h3', ex, rfl, k⟩
    ·have EX := J1 ex
     have K := J1 k
     have KR := J1 kr
     clear ex k kr hq
     repeat' (first | (refine WD.nil ⟨?_, ?_⟩; rotate_left; simp only [tN, bN, eN, true_and]) | (refine WD.cons rfl rfl ?_) | (refine calm_end) | (refine calmG rfl rfl rfl rfl rfl rfl rfl ?_ ?_ ?_; (focus exact Z2); (focus (first | exact Z2 | exact Z1))) | refine go1 ?_ | (apply U6; exact Z1; exact Z1; (exact hrec); simp only [pM, pN, rR, rP]) | (refine go2 ?_ ?_ <;> intro hh) | fail)
     refine ⟨hin, _, _, s3, rfl, HX0.out.trans (HR2.out.trans KR.out), K.out, ?_, ?_, ?_, ?_, ?_, ?_, ?_, by omega⟩
     ·rw [foldS_more HNO.out, if_pos hpi]
      exact EX.out
     all_goals exact Z2
    ·have EX := J1 ex
     have K := J1 k
     clear ex k hq
     repeat' (first | (refine WD.nil ⟨?_, ?_⟩; rotate_left; simp only [tN, bN, eN, true_and]) | (refine WD.cons rfl rfl ?_) | (refine calm_end) | (refine calmG rfl rfl rfl rfl rfl rfl rfl ?_ ?_ ?_; (focus exact Z2); (focus (first | exact Z2 | exact Z1))) | refine go1 ?_ | (apply U6; exact Z1; exact Z1; (exact hrec); simp only [pM, pN, rR, rP]) | (refine go2 ?_ ?_ <;> intro hh) | fail)
     all_goals (simp only [resV_def (X := dX c) Tryz.func139, Tryz.results139]; first | exact J5 | refine J6 ?_)
     refine stR_end (foldS_take (i := i + 1) hin ?_) ⟨K.out.1, (HX0.out.trans HR2.out).stop K.out.2⟩
     rw [foldS_more HNO.out, if_pos hpi]
     exact EX.out
  ·have hdl : decide (((i : Int) - 1) < (rl : Int)) = false := by have := HN.out; simp only [decide_eq_false_iff_not]; omega
   have hin2 : i = N := by omega
   subst hin2
   have HX0 := J1 hx0
   clear hx0 hx1
   generalize (i : Int) - 1 = jj at hdl h7
   repeat' (first | refine goS ?_ | (refine go2 ?_ ?_ <;> intro hh) | fail)
   all_goals (simp only [resV_def (X := dX c) Tryz.func139, Tryz.results139]; first | exact J5 | refine J6 ?_)
   exact stR_go HNO.out HI'.out HX0.out
set_option maxHeartbeats 1000000 in
theorem G138 {σ : Type} (I D : σ -> Heap -> Prop) (own : Heap -> Nat -> Prop) (ex : Nat -> Prop) (ok : OwnOk I own) (step : List Int -> σ -> σ × Bool) (R : List (List Int) -> σ -> Prop) (hR : ∀ o rem s s', R (o :: rem) s -> step o s = (s', true) -> R rem s') (c : Itr) (hc : c 138 = none) (hc1 : c 139 = none) (hc3 : c 96 = none) (n rl L bm bp : Nat) (hn : n <= 8) (hrl : rl <= 8) (h : Heap) (s : σ) (ra fa oa ha : AV) (lra : lenS ra = some rl) (ora : outV (some ra) = some ra) (sf : FuncId) (sfi sca : List AV) (su : List Int -> Int -> Bool)
  (g1 : h.get bm = some (.var [.int .i64 ↑n, ra, fa, oa, ha])) (gp : h.get bp = some (.var [.func (.func sf) sfi sca])) (l1 : bm < h.next) (lp : bp < h.next) (f1 : ¬ own h bm) (fp : ¬ own h bp) (hi : I s h) (hr0 : R (pathsL su rl n []) s)
  (hsu : ∀ a p (r : Int) h1, Rel own h h1 -> Blt h1 a 1 (intsE p) -> p.length < n -> PLt rl p -> -1 <= r -> r < rl -> Cl (dX c) sf ((sfi ++ [a, .int .i64 r]) ++ sca) h1 (.ret (.bool (su p r)) h1 none))
  (hrd : ∀ s o rem a h1, R (o :: rem) s -> I s h1 -> Rel own h h1 -> o.length = n -> PLt rl o -> Blt h1 a 1 (intsE o) -> FreeV own h1 a -> RdR (dX c) L [a] h1 (stR I D own ex h1 (step o s))) :
  ClR (dX c) 138 [.yield L, .ptr bm 0, .ptr bp 0] h (stU I D own ex h (foldS step (pathsL su rl n []) s)) := by
 obtain ⟨pn, pm⟩ := h
 simp only at l1 lp
 have hx : HExt ⟨pn, pm⟩ ⟨pn + 1 + 1, ((pm.set pn (.var [.yield L])).set (pn + 1) (.var [.nilfunc])).set (pn + 1) (.var [.func (.func 139) [] [.ptr bm 0, .ptr pn 0, .ptr bp 0, .ptr (pn + 1) 0]])⟩ := by
  refine ⟨by simp only; omega, fun id hid => ?_⟩
  simp only at hid
  rw [hget_set, if_neg (by omega), hget_set, if_neg (by omega), hget_set, if_neg (by omega)]
  rfl
 have hx' := ok.ext s _ _ hi hx
 have hr' := ok.rel hi hx
 have hlt : ∀ id, pn <= id -> ¬ own ⟨pn + 1 + 1, ((pm.set pn (.var [.yield L])).set (pn + 1) (.var [.nilfunc])).set (pn + 1) (.var [.func (.func 139) [] [.ptr bm 0, .ptr pn 0, .ptr bp 0, .ptr (pn + 1) 0]])⟩ id := fun id hid ho => by
  have := ok.lt s _ id hi (hx'.2 id ho)
  simp only at this
  omega
 have hrec := G139 I D own ex ok step R hR c hc1 hc3 n rl L bm pn bp (pn + 1) hn hrl ⟨pn + 1 + 1, ((pm.set pn (.var [.yield L])).set (pn + 1) (.var [.nilfunc])).set (pn + 1) (.var [.func (.func 139) [] [.ptr bm 0, .ptr pn 0, .ptr bp 0, .ptr (pn + 1) 0]])⟩ ra fa oa ha lra ora sf sfi sca su
  ((hx.2 bm l1).trans g1) (by rw [hget_set, if_neg (by omega), hget_set, if_neg (by omega), hget_set, if_pos rfl]) ((hx.2 bp lp).trans gp) (by rw [hget_set, if_pos rfl]) (by simp only; omega) (by simp only; omega) (by simp only; omega) (by simp only; omega)
  (hr'.2 bm l1 f1).2 (hlt _ (Nat.le_refl _)) (hr'.2 bp lp fp).2 (hlt _ (Nat.le_succ _))
  (fun a p r h1 k => hsu a p r h1 (hr'.trans k))
  (fun s o rem a h1 q i k => hrd s o rem a h1 q i (hr'.trans k)) n [] .nilslice _ s [] (by rw [List.append_nil]; exact hr0) (by simp) (fun k hk => by simp at hk) hx'.1 (Rel.refl _ _) Blt.nil (fun id off n e => by cases e)
 unfold ClR at hrec
 obtain ⟨r, hrec, hq⟩ := hrec
 have HR' := J1 hr'
 clear hx hx' hr' hlt g1 gp hrd hi f1 fp ok hr0 hR hsu
 rcases stR_or hq with ⟨s', h', ex, rfl, k, kr⟩ | ⟨s', h', ex, rfl, k⟩
 ·have EX := J1 ex
  have K := J1 k
  have KR := J1 kr
  clear ex k kr hq
  refine ClR.walk (c := _) hc Tryz.func138 rfl (by kernel_rfl) rfl stU_fail ?_
  simp only [entryEnv, Nat.reduceAdd]
  repeat' (first | (apply U6; exact Z1; exact Z1; (focus (exact hrec)); simp only [pM, pN, rR, rP]) | refine go1 ?_ | (refine go2 ?_ ?_ <;> intro hh) | fail)
  all_goals (simp only [resV_def (X := dX c) Tryz.func138, Tryz.results138]; first | exact J5 | refine J6 ?_)
  exact stU_go EX.out K.out (HR'.out.trans KR.out)
 ·have EX := J1 ex
  have K := J1 k
  clear ex k hq
  refine ClR.walk (c := _) hc Tryz.func138 rfl (by kernel_rfl) rfl stU_fail ?_
  simp only [entryEnv, Nat.reduceAdd]
  repeat' (first | (apply U6; exact Z1; exact Z1; (focus (exact hrec)); simp only [pM, pN, rR, rP]) | refine go1 ?_ | (refine go2 ?_ ?_ <;> intro hh) | fail)
  all_goals (simp only [resV_def (X := dX c) Tryz.func138, Tryz.results138]; first | exact J5 | refine J6 ?_)
  exact stU_end EX.out ⟨K.out.1, HR'.out.stop K.out.2⟩
end Go.AM
