/-
  A part of the proof: contracts of functions.
-/
import Derived.Test.YtkpbdjpekjdhcaaGreatDoorXBN
import Derived.Test.YtkpbdjpekjdhcaaGreatDoorXBM
import Derived.Test.YtkpbdjpekjdhcaaGreatDoorXBL
set_option linter.unusedSectionVars false
set_option linter.unusedVariables false
set_option linter.unusedSimpArgs false
set_option maxRecDepth 100000
namespace Go.AM
open Go Go.Proofs
variable [Keep]
attribute [local irreducible] W WO WO1 WD WQ WT thenQ blockQ endR isRet retK Cl ClR
open Go.TX (Rm Fa Ha Hs mapO mapO_len)
attribute [local irreducible] roundQ RdR houseB airS failsH hasB allP
attribute [local irreducible] pathB
structure DayOk (m : Hs) (ra fa oa ha aa : AV) (mid c9 : Nat) (h : Heap) : Prop where
 cell : h.get c9 = some (.var [.int .i64 m.hours, ra, fa, oa, ha, aa, .map mid])
 all : slV fkC aa = some ((failsH m).map Fl.tell)
 mp : ∃ l, h.get mid = some (.mp (entE m l)) /\ ∀ f ∈ failsH m, f ∈ l
section
variable {c : Itr}
def BO (m : Hs) (h : Heap) (v : AV) (o : Option (List Int)) : Prop := (o = none /\ v = .nilslice) \/ ∃ p, o = some p /\ Blt h v 1 (intsE p) /\ pathB m p = true /\ p.length <= 1000
theorem BO.ext {m : Hs} {h h' : Heap} {v : AV} {o : Option (List Int)} (b : BO m h v o) (x : HExt h h') : BO m h' v o := by
 rcases b with q | ⟨p, h1, h2, h3⟩
 ·exact .inl q
 ·exact .inr ⟨p, h1, h2.ext x, h3⟩
theorem BO.parts {m : Hs} {h : Heap} {v : AV} {o : Option (List Int)} (b : BO m h v o) : outV (some v) = some v /\ v.cells = [v] /\ isTuple v = false := by
 rcases b with ⟨_, rfl⟩ | ⟨p, h1, h2, h3⟩
 ·exact ⟨rfl, rfl, rfl⟩
 ·rcases h2 with ⟨rfl, _⟩ | ⟨id, rfl, _⟩ <;> exact ⟨rfl, rfl, rfl⟩
end
end Go.AM
namespace Go.AM
open Go Go.Proofs
variable [Keep]
attribute [local irreducible] W WO WO1 WD WQ WT thenQ blockQ endR isRet retK Cl ClR
open Go.TX (Rm Fa Ha Hs)
structure OwnI (n ow : Nat) (O : Nat -> List (List Int)) (h : Heap) : Prop where
 ex : ∃ els : List AV, h.get ow = some (.rw 1 els) /\ els.length = n /\ (∀ i, i < n -> ∃ b, els[i]? = some b /\ RowsV h b (O i) /\ SepV b (.row ow 0 0)) /\ ∀ (i j : Nat) (b b' : AV), i ≠ j -> els[i]? = some b -> els[j]? = some b' -> SepV b b'
 lt : ow < h.next
 pos : ∀ i p, p ∈ O i -> p ≠ []
def ownO (ow : Nat) (h : Heap) (id : Nat) : Prop := id = ow \/ ∃ (els : List AV) (i off n : Nat), h.get ow = some (.rw 1 els) /\ els[i]? = some (.row id off n)
theorem RowsV.ext {h h' : Heap} {v : AV} {g : List (List Int)} (r : RowsV h v g) (x : HExt h h') : RowsV h' v g := by
 obtain ⟨els, h1, h2, h3⟩ := r
 refine ⟨els, h1.ext x, h2, fun k p hk => ?_⟩
 obtain ⟨b, b1, b2⟩ := h3 k p hk
 exact ⟨b, b1, b2.ext x⟩
theorem RowsV.lp {h h' : Heap} {v : AV} {g : List (List Int)} {L : Nat} (r : RowsV h v g) (nr : ∀ z r, h.get L ≠ some (.rw z r)) (hn : h'.next = h.next) (hg : ∀ id, id ≠ L -> h'.get id = h.get id) : RowsV h' v g := by
 obtain ⟨els, h1, h2, h3⟩ := r
 refine ⟨els, h1.lp nr hn hg, h2, fun k p hk => ?_⟩
 obtain ⟨b, b1, b2⟩ := h3 k p hk
 exact ⟨b, b1, b2.lp nr hn hg⟩
theorem RowsV.lt {h : Heap} {v : AV} {g : List (List Int)} (r : RowsV h v g) {id off n : Nat} (e : v = .row id off n) : id < h.next := by
 obtain ⟨els, h1, _⟩ := r
 rcases h1 with ⟨q, _⟩ | ⟨i, q, _, q3, _⟩
 ·rw [q] at e; cases e
 ·rw [q] at e; cases e; exact q3
theorem own_ok (n ow : Nat) : OwnOk (OwnI n ow) (ownO ow) := by
 refine ⟨fun O h h' i x => ?_, fun O h h' L i no nr hn hg => ?_, fun O h id i ho => ?_⟩
 ·obtain ⟨els, e1, e2, e3, e4⟩ := i.ex
  have e1' : h'.get ow = some (.rw 1 els) := (x.2 ow i.lt).trans e1
  refine ⟨⟨⟨els, e1', e2, fun k hk => ?_, e4⟩, Nat.lt_of_lt_of_le i.lt x.1, i.pos⟩, fun id ho => ?_⟩
  ·obtain ⟨b, b1, b2, b3⟩ := e3 k hk
   exact ⟨b, b1, b2.ext x, b3⟩
  ·rcases ho with rfl | ⟨els', k, off, m, f1, f2⟩
   ·exact .inl rfl
   ·rw [e1'] at f1
    cases f1
    exact .inr ⟨els, k, off, m, e1, f2⟩
 ·obtain ⟨els, e1, e2, e3, e4⟩ := i.ex
  have e1' : h'.get ow = some (.rw 1 els) := (hg ow (fun e => no (.inl e.symm))).trans e1
  refine ⟨⟨⟨els, e1', e2, fun k hk => ?_, e4⟩, by rw [hn]; exact i.lt, i.pos⟩, fun id ho => ?_⟩
  ·obtain ⟨b, b1, b2, b3⟩ := e3 k hk
   exact ⟨b, b1, b2.lp nr hn hg, b3⟩
  ·rcases ho with rfl | ⟨els', k, off, m, f1, f2⟩
   ·exact .inl rfl
   ·rw [e1'] at f1
    cases f1
    exact .inr ⟨els, k, off, m, e1, f2⟩
 ·obtain ⟨els, e1, e2, e3, e4⟩ := i.ex
  rcases ho with rfl | ⟨els', k, off, m, f1, f2⟩
  ·exact i.lt
  ·rw [e1] at f1
   cases f1
   have hk : k < n := by rw [<- e2]; exact (List.getElem?_eq_some_iff.1 f2).1
   obtain ⟨b, b1, b2, b3⟩ := e3 k hk
   rw [f2] at b1
   exact b2.lt (Option.some.inj b1).symm
theorem row_no_int {h : Heap} {b : AV} {p : List Int} (q : Blt h b 1 (intsE p)) : (∃ id n, b = .row id 0 n) \/ b = .nilslice := by
 rcases q with ⟨e, _⟩ | ⟨id, e, _⟩
 ·exact .inr e
 ·exact .inl ⟨id, _, e⟩
theorem ints_apart {h : Heap} {v pa : AV} {g : List (List Int)} {p : List Int} (r : RowsV h v g) (q : Blt h pa 1 (intsE p)) : SepV v pa := by
 intro id x y x' y' e f
 obtain ⟨els, h1, h2, h3⟩ := r
 rcases h1 with ⟨k, _⟩ | ⟨i, k, k2, _, kn⟩
 ·rw [k] at e; cases e
 ·rw [k] at e
  cases e
  rcases q with ⟨k', _⟩ | ⟨j, k', k3, _, kn'⟩
  ·rw [k'] at f; cases f
  ·rw [k'] at f
   cases f
   rw [k2] at k3
   have he : els = intsE p := by injection k3 with k3; injection k3
   have hg : 0 < g.length := by rw [<- h2]; exact List.length_pos_iff.2 kn
   obtain ⟨p0, hp0⟩ := get_some hg
   obtain ⟨b, b1, b2⟩ := h3 0 p0 hp0
   rw [he] at b1
   unfold intsE at b1
   rw [List.getElem?_map] at b1
   cases hq : p[0]? with
   | none => rw [hq] at b1; simp at b1
   | some z =>
    rw [hq] at b1
    simp only [Option.map_some, Option.some.injEq] at b1
    rcases row_no_int b2 with ⟨i2, n2, e2⟩ | e2
    ·rw [e2] at b1; cases b1
    ·rw [e2] at b1; cases b1
theorem own_put {n ow : Nat} {O : Nat -> List (List Int)} {h h1 h2 : Heap} (I : OwnI n ow O h) {i m : Nat} (hi : i < n) {els ei : List AV} {b pa v' : AV} {p : List Int} (g : h.get ow = some (.rw 1 els)) (gb : els[i]? = some b) (hb : Blt h b 1 ei) (hel : ei.length = (O i).length) (hei : ∀ (k : Nat) (p : List Int), (O i)[k]? = some p -> ∃ c, ei[k]? = some c /\ Blt h c 1 (intsE p)) (hp : p ≠ []) (hpa : Blt h pa 1 (intsE p))
  (kp : Keeps h h1 b) (ev : v' = .row h.next 0 m) (hv : Blt h1 v' 1 (ei ++ [pa])) (hn2 : h2.next = h1.next) (g2 : h2.get ow = some (.rw 1 (els.set i v'))) (gs : ∀ id, id ≠ ow -> h2.get id = h1.get id) : OwnI n ow (fun j => if j = i then O j ++ [p] else O j) h2 /\ Rel (ownO ow) h h2 := by
 obtain ⟨els', e1, e2, e3, e4⟩ := I.ex
 rw [g] at e1
 cases e1
 have hlt := I.lt
 have key : ∀ {c : AV} {l : List AV}, Blt h c 1 l -> SepV b c -> SepV c (.row ow 0 0) -> Blt h2 c 1 l := fun {c l} q s1 s2 => by
  rcases q with q | ⟨id, q1, q2, q3, q4⟩
  ·exact .inl q
  ·have h1' : id ≠ ow := fun e => s2 id 0 _ 0 0 q1 (by rw [e])
   refine .inr ⟨id, q1, ?_, by rw [hn2]; exact Nat.lt_of_lt_of_le q3 kp.1, q4⟩
   rw [gs id h1', kp.2 id q3 fun off m e => s1 id _ _ _ _ e q1]
   exact q2
 have hrow : ∀ j, j < n -> ∃ bj, els[j]? = some bj /\ RowsV h bj (O j) /\ SepV bj (.row ow 0 0) := e3
 obtain ⟨b0, b1, b2, b3⟩ := e3 i hi
 rw [gb] at b1
 cases b1
 have hnow : ∀ {c : AV} {q : List Int}, Blt h c 1 (intsE q) -> SepV c (.row ow 0 0) := fun {c q} hc => by
  intro id x y x' y' e f
  cases f
  rcases hc with ⟨k, _⟩ | ⟨j, k, k2, _, _⟩
  ·rw [k] at e; cases e
  ·rw [k] at e
   cases e
   rw [g] at k2
   have he : els = intsE q := by injection k2 with k2; injection k2
   rw [he] at gb
   unfold intsE at gb
   rw [List.getElem?_map] at gb
   cases hq : q[i]? with
   | none => rw [hq] at gb; simp at gb
   | some z =>
    rw [hq] at gb
    simp only [Option.map_some, Option.some.injEq] at gb
    rcases hb with ⟨e2, _⟩ | ⟨id2, e2, _⟩
    ·rw [e2] at gb; cases gb
    ·rw [e2] at gb; cases gb
 have hpath : ∀ {c : AV} {q : List Int}, Blt h c 1 (intsE q) -> Blt h2 c 1 (intsE q) := fun hc => key hc (ints_apart b2 hc) (hnow hc)
 have hbn : ∀ {c : AV} {l : List AV}, Blt h c 1 l -> SepV v' c := fun {c l} q => by
  intro id x y x' y' e f
  rw [ev] at e
  cases e
  rcases q with ⟨k, _⟩ | ⟨j, k, _, k3, _⟩
  ·rw [k] at f; cases f
  ·rw [k] at f; cases f; omega
 have hv2 : Blt h2 v' 1 (ei ++ [pa]) := by
  rcases hv with ⟨q, _⟩ | ⟨id, q1, q2, q3, q4⟩
  ·rw [q] at ev; cases ev
  ·have hid : id = h.next := by rw [q1] at ev; cases ev; rfl
   exact .inr ⟨id, q1, (gs id (by omega)).trans q2, by rw [hn2]; exact q3, q4⟩
 have hnew : RowsV h2 v' (O i ++ [p]) := by
  refine ⟨_, hv2, by simp [hel], fun k q hk => ?_⟩
  by_cases e : k < (O i).length
  ·rw [List.getElem?_append_left e] at hk
   obtain ⟨c, c1, c2⟩ := hei k q hk
   exact ⟨c, by rw [List.getElem?_append_left (by omega)]; exact c1, hpath c2⟩
  ·rw [List.getElem?_append_right (by omega)] at hk
   have h0 : k - (O i).length = 0 := by
    obtain ⟨h1, _⟩ := List.getElem?_eq_some_iff.1 hk
    simp only [List.length_cons, List.length_nil] at h1
    omega
   rw [h0] at hk
   simp only [List.getElem?_cons_zero, Option.some.injEq] at hk
   subst hk
   exact ⟨pa, by rw [List.getElem?_append_right (by omega), hel, h0]; rfl, hpath hpa⟩
 have hil : i < els.length := by omega
 have hset : ∀ j, j ≠ i -> (els.set i v')[j]? = els[j]? := fun j hj => by rw [List.getElem?_set, if_neg (fun e => hj e.symm)]
 have hseti : (els.set i v')[i]? = some v' := by rw [List.getElem?_set, if_pos rfl, if_pos hil]
 have hrl : ∀ {c : AV} {q : List (List Int)}, RowsV h c q -> ∃ l, Blt h c 1 l := fun r => by obtain ⟨l, h1, _⟩ := r; exact ⟨l, h1⟩
 refine ⟨⟨⟨els.set i v', g2, by simp [e2], fun j hj => ?_, fun j k c c' hjk hc hc' => ?_⟩, ?_, fun j q hq => ?_⟩, ?_, fun id hid hno => ⟨?_, fun ho => ?_⟩⟩
 ·by_cases e : j = i
  ·subst e
   rw [if_pos rfl]
   refine ⟨v', hseti, hnew, fun id x y x' y' e f => ?_⟩
   rw [ev] at e
   cases e
   cases f
   omega
  ·rw [if_neg e]
   obtain ⟨c, c1, c2, c3⟩ := hrow j hj
   have hs := e4 i j b c (fun e' => e e'.symm) gb c1
   refine ⟨c, (hset j e).trans c1, ?_, c3⟩
   obtain ⟨l, l1, l2, l3⟩ := c2
   refine ⟨l, key l1 hs c3, l2, fun k q hk => ?_⟩
   obtain ⟨d, d1, d2⟩ := l3 k q hk
   exact ⟨d, d1, hpath d2⟩
 ·by_cases ej : j = i
  ·subst ej
   rw [hseti] at hc
   cases hc
   rw [hset k (fun e => hjk e.symm)] at hc'
   have hk : k < n := by rw [<- e2]; exact (List.getElem?_eq_some_iff.1 hc').1
   obtain ⟨d, d1, d2, _⟩ := hrow k hk
   rw [hc'] at d1
   cases d1
   obtain ⟨l, hl⟩ := hrl d2
   exact hbn hl
  ·rw [hset j ej] at hc
   by_cases ek : k = i
   ·subst ek
    rw [hseti] at hc'
    cases hc'
    have hj : j < n := by rw [<- e2]; exact (List.getElem?_eq_some_iff.1 hc).1
    obtain ⟨d, d1, d2, _⟩ := hrow j hj
    rw [hc] at d1
    cases d1
    obtain ⟨l, hl⟩ := hrl d2
    exact (hbn hl).symm
   ·rw [hset k ek] at hc'
    exact e4 j k c c' hjk hc hc'
 ·rw [hn2]; exact Nat.lt_of_lt_of_le hlt kp.1
 ·by_cases e : j = i
  ·rw [if_pos e] at hq
   rcases List.mem_append.1 hq with hq | hq
   ·exact I.pos j q hq
   ·rw [List.mem_singleton] at hq; rw [hq]; exact hp
  ·rw [if_neg e] at hq
   exact I.pos j q hq
 ·rw [hn2]; exact kp.1
 ·rw [gs id (fun e => hno (.inl e)), kp.2 id hid fun off m e => hno (.inr ⟨els, i, off, m, g, by rw [gb, e]⟩)]
 ·rcases ho with rfl | ⟨els', k, off, m', f1, f2⟩
  ·exact hno (.inl rfl)
  ·rw [g2] at f1
   cases f1
   by_cases ek : k = i
   ·subst ek
    rw [hseti] at f2
    rw [ev] at f2
    cases f2
    omega
   ·rw [hset k ek] at f2
    exact hno (.inr ⟨els, k, off, m', g, f2⟩)
theorem z36 : zeroT Tryz.prog 36 = some .nilslice := by kernel_rfl
theorem mk89 {f : FuncId} {rnd : Bool} {e : Mp AV} {lm : Mp (Nat × List AV)} {hp : Heap} {df : List (AV × List AV)} {up : Option (AV × Bool)} {l c : Operand} {n : Nat} (h1 : (Fr.mk f rnd e lm hp df up).opv l = some (.int .i64 n)) (h2 : (Fr.mk f rnd e lm hp df up).opv c = some (.int .i64 n)) (hn : n <= 4) :
  (Fr.mk f rnd e lm hp df up).makeSliceE Tryz.prog 89 l c = .val (.row hp.next 0 n) (Fr.mk f rnd e lm (hp.new (.rw 1 (List.replicate n .nilslice))) df up) := by
 have e1 : elemT Tryz.prog 89 = some 36 := by kernel_rfl
 have e2 : szT Tryz.prog 36 = 1 := by kernel_rfl
 obtain ⟨i, e3, e4⟩ : ∃ i, Tryz.prog.info? 36 = some i /\ i.bytes <= 65536 := by
  have : (match Tryz.prog.info? 36 with | some i => decide (i.bytes <= 65536) | none => false) = true := by kernel_rfl
  cases h : Tryz.prog.info? 36 with
  | none => rw [h] at this; cases this
  | some i => rw [h] at this; exact ⟨i, rfl, by simpa using this⟩
 have e5 : (0 : Int) <= n /\ (n : Int) <= n /\ (n : Int) <= most /\ i.bytes <= 65536 /\ (AV.nilslice).cells.length = 1 /\ isTuple .nilslice = false /\ 1 ≠ 0 := by
  refine ⟨by omega, by omega, by unfold most; omega, e4, rfl, rfl, by omega⟩
 unfold Fr.makeSliceE
 simp only [e1, h1, h2, z36, e3, e2, e5, and_self, if_true, Int.toNat_natCast, ne_eq, not_false_eq_true]
theorem WO1.make89 {c0 : Itr} {ops : Array Oper} {K P : AV -> Fr -> Prop} {f : FuncId} {rnd : Bool} {e : Mp AV} {lm : Mp (Nat × List AV)} {hp : Heap} {df : List (AV × List AV)} {up : Option (AV × Bool)} {d : Option Tmp} {T : TypeId} {p : String} {af : Array Edge} {l c : Operand} {n : Nat}
  (h1 : (Fr.mk f rnd e lm hp df up).opv l = some (.int .i64 n)) (h2 : (Fr.mk f rnd e lm hp df up).opv c = some (.int .i64 n)) (hn : n <= 4)
  (h : K (.row hp.next 0 n) ((Fr.mk f rnd e lm (hp.new (.rw 1 (List.replicate n .nilslice))) df up).put d (.row hp.next 0 n))) : WO1 (dX c0) ops ⟨d, .makeSlice 89 l c, T, p, af, none⟩ (Fr.mk f rnd e lm hp df up) K P :=
 U5 (v := .row hp.next 0 n) (F' := Fr.mk f rnd e lm (hp.new (.rw 1 (List.replicate n .nilslice))) df up) rfl (fun cl rd => by
  simp only [efV, dX_P]
  exact mk89 h1 h2 hn) h
theorem own_idx {id n j : Nat} {hp : Heap} {el : List AV} (hg : hp.get id = some (.rw 1 el)) (hj : j < n) : indexAddrV Tryz.prog hp 89 (.row id 0 n) (.int .i64 (j : Int)) = some (.eptr id 1 j 0) := by
 have hi : idxV (.int .i64 (j : Int)) n = some j := by
  simp only [idxV]
  rw [if_pos (by constructor <;> omega)]
  simp
 simp only [indexAddrV, Tryz.underlying89, ty_lay36, hi, hg, if_true, Nat.zero_add]
def ownK (kp : Nat -> List Int -> Bool) (p : List Int) (k : Nat) (O : Nat -> List (List Int)) : Nat -> List (List Int) := fun i => if decide (i < k) && kp i p then O i ++ [p] else O i
theorem ownK_zero (kp : Nat -> List Int -> Bool) (p : List Int) (O : Nat -> List (List Int)) : ownK kp p 0 O = O := by
 funext i
 unfold ownK
 simp
theorem ownK_yes {kp : Nat -> List Int -> Bool} {p : List Int} {k : Nat} {O : Nat -> List (List Int)} (h : kp k p = true) : ownK kp p (k + 1) O = fun j => if j = k then ownK kp p k O j ++ [p] else ownK kp p k O j := by
 funext j
 unfold ownK
 by_cases e : j = k
 ·subst e; simp [h]
 ·have h1 : decide (j < k + 1) = decide (j < k) := by rw [decide_eq_decide]; omega
  rw [if_neg e, h1]
theorem ownK_no {kp : Nat -> List Int -> Bool} {p : List Int} {k : Nat} {O : Nat -> List (List Int)} (h : kp k p = false) : ownK kp p (k + 1) O = ownK kp p k O := by
 funext j
 unfold ownK
 by_cases e : j = k
 ·subst e; simp [h]
 ·have h1 : decide (j < k + 1) = decide (j < k) := by rw [decide_eq_decide]; omega
  rw [h1]
attribute [local irreducible] pathB airS kpB workedL RowsV
section
variable {c : Itr}
set_option maxHeartbeats 16000000 in
theorem R27_2 (h90 : c 90 = some go90) (K : Fr -> Prop) (Q : Out -> Prop) (m : Hs) (ho : HOk m) (ra fa oa ha aa ap : AV) (mid dn oc ow k : Nat) (O : Nat -> List (List Int)) (p : List Int) (e : Mp AV) (lm : Mp (Nat × List AV)) (hp : Heap)
  (hA : HsA m ra fa oa ha) (hd : DayOk m ra fa oa ha aa mid dn hp) (hoc : hp.get oc = some (.var [.row ow 0 m.hands.length])) (ldn : dn < hp.next) (lmid : mid < hp.next) (loc : oc < hp.next) (noc : oc ≠ ow) (nmid : mid ≠ ow)
  (I : OwnI m.hands.length ow O hp) (hk : k < m.hands.length) (hO : (O k).length <= 1000) (hap : Blt hp ap 1 (intsE p)) (hp0 : p ≠ []) (hpl : p.length <= maxL) (hpb : pathB m p = true)
  (c5 : e.get 5 = some (.ptr dn 0)) (c6 : e.get 6 = some (.ptr oc 0)) (c7 : e.get 7 = some ap) (c27 : e.get 27 = some ha) (c28 : e.get 28 = some (.int .i64 (m.hands.length : Int))) (c29 : e.get 29 = some (.int .i64 (k : Int)))
  (hgo : ∀ e' lm' h', keepE [5, 6, 7, 27, 28] e e' -> e'.get 29 = some (.int .i64 ((k + 1 : Nat) : Int)) -> OwnI m.hands.length ow (fun j => if j = k then (if decide (workedL p <= mostAt m k) && decide ((airS m p).2 <= limAt m k) then O j ++ [p] else O j) else O j) h' -> Rel (ownO ow) hp h' -> K (Fr.mk 27 true e' lm' h' [] none)) :
  W (dX c) (loopIn Tryz.f27 2) (Fr.mk 27 true e lm hp [] none) (thenQ K Q) := by
 have hdk : decide ((k : Int) < (m.hands.length : Int)) = true := by simpa using hk
 have hwk : IntKind.i64.wrap ((k : Int) + 1) = ((k + 1 : Nat) : Int) := wrap_succ hk (by have := ho.hands; unfold maxL; omega)
 obtain ⟨x, hxx⟩ := get_some hk
 have hix := fun H => has_idx hA.h hxx H
 have hmx : mostAt m k = x.most := by unfold mostAt; rw [hxx]
 have hlx : limAt m k = x.limit := by unfold limAt; rw [hxx]
 rw [hmx, hlx] at hgo
 obtain ⟨l, hgm, hl⟩ := hd.mp
 have k90 := fun h1 (x1 : HExt hp h1) => K90d (X := dX c) h90 ho (z1 := ra) (z2 := fa) (z3 := oa) (z4 := ha) x.limit x.most hd.all ((x1.2 mid lmid).trans hgm) hl (pth_blt (hap.ext x1) hpl) hpb
 have o1 := sl_out hA.r
 have o2 := sl_out hA.f
 have o3 := sl_out hA.o
 have o4 := sl_out hA.h
 have oaa := sl_out hd.all
 have opa := hap.out
 have hcp : ap.cells = [ap] /\ isTuple ap = false := by rcases hap with ⟨rfl, _⟩ | ⟨id, rfl, _⟩ <;> exact ⟨rfl, rfl⟩
 obtain ⟨hcp, htp⟩ := hcp
 have hsc : ap.cells.length = 1 := by rw [hcp]; rfl
 have hcell := hd.cell
 have k90 := k90 _ (HExt.refl _)
 have I1 := I
 obtain ⟨pn, pm⟩ := hp
 have HGO := J1 hgo
 have HI1 := J1 I1
 have HP0 := J1 hp0
 have HAP1 := J1 hap
 have HK := J1 hk
 have hO9 : (O k).length + 1 <= most := by unfold most; omega
 have HO9 := J1 hO9
 simp only [AV.cells] at hcp
 simp only [isTuple] at htp
 simp only [hp_get] at hcell hoc
 have LOC := J1 loc
 clear hgo hp0 hA ho hd hl hgm hxx hmx hlx hO hpl hpb hap noc nmid ldn lmid loc I hO9
 generalize hbu : (decide (workedL p <= x.most) && decide ((airS m p).2 <= x.limit)) = bu at *
 have HBU := J1 hbu
 clear hbu
 cases bu with
 | false =>
  clear I1 hk
  repeat' (first | refine goS ?_ | (apply U6; exact Z1; exact Z1; (exact k90); simp only [pM, pN, rR, rP]) | (refine go2 ?_ ?_ <;> intro hh) | fail)
  all_goals refine HGO.out _ _ _ ?_ ?_ ?_ (Rel.refl _ _)
  all_goals first | exact J7 | skip
  have hf : (fun j => if j = k then (if false = true then O j ++ [p] else O j) else O j) = O := by
   funext j
   split <;> simp
  rw [hf]
  exact HI1.out
 | true =>
  obtain ⟨els, e1, e2, e3, e4⟩ := I1.ex
  obtain ⟨b, b1, b2, b3⟩ := e3 k hk
  unfold RowsV at b2
  obtain ⟨ei, q1, q2, q3⟩ := b2
  have hA := q1.toN
  have ob := q1.out
  have hcb : b.cells = [b] /\ isTuple b = false := by rcases q1 with ⟨rfl, _⟩ | ⟨id, rfl, _⟩ <;> exact ⟨rfl, rfl⟩
  obtain ⟨hcb, htb⟩ := hcb
  have hix9 := own_idx (n := m.hands.length) e1 hk
  have hll : ei.length + 1 <= most := by rw [q2]; exact HO9.out
  have hlt9 := I1.lt
  have E1 := J1 e1
  have B1 := J1 b1
  have B3 := J1 b3
  have Q1 := J1 q1
  have Q2 := J1 q2
  have Q3 := J1 q3
  have HL9 := J1 hlt9
  have hbo : ∀ off n, b ≠ .row oc off n := fun off n e => by
   rcases q1 with ⟨z, _⟩ | ⟨id, z, z2, _⟩
   ·rw [z] at e; cases e
   ·rw [z] at e
    cases e
    simp only [hp_get] at z2
    rw [hoc] at z2
    cases z2
  have hag : isAggV b = false := by rcases q1 with ⟨rfl, _⟩ | ⟨id, rfl, _⟩ <;> rfl
  have HBO := J1 hbo
  simp only [AV.cells] at hcb
  simp only [isTuple] at htb
  simp only [hp_get] at e1
  simp only [isAggV] at hag
  clear I1 e2 e3 e4 b3 q1 q2 q3 hlt9 hbo
  repeat' (first | (apply W.draw (id := 11) (lc := [0, 1, 2, 3, 4, 5, 6, 7, 8, 9, 10]) (hot := [(0, 8)]); kernel_rfl; kernel_rfl; kernel_rfl; exact Z4) | (apply WD.cons (o := ⟨some 46, _, _, _, _, none⟩); exact rfl; exact rfl) | (apply WD.cons (o := ⟨some 47, _, _, _, _, none⟩); exact rfl; exact rfl) | (apply WD.cons (o := ⟨none, .store 36 (.tmp 47) (.tmp 46), _, _, _, none⟩); exact rfl; exact rfl) | (refine WD.cons rfl rfl ?_) | (refine WD.nil ⟨?_, ?_⟩; rotate_left; simp only [tN, bN, eN, true_and]) | (refine calmR rfl rfl rfl rfl rfl ?_ ?_; (focus (first | exact Z2 | exact Z1))) | (refine calmE rfl rfl rfl rfl rfl ?_ ?_; (focus (first | exact Z2 | exact Z1))) | (with_reducible refine calmEnd) | (apply WO1.appendX (t := 36) (u := 36) (e := 24) (e' := 24) (sz := 1) (tl := []) (b := 0) (h0 := ⟨0, .nil⟩) (hb := hA) (hx := ⟨Nat.zero_le _, fun id h => absurd h (Nat.not_lt_zero id)⟩); exact Z1; exact rfl; exact Z2; exact Z2; exact Z2; (focus (exact ty_row36)); exact Z1; (focus (intro v hv; simp at hv; subst hv; first | rfl | exact hsc)); (focus (simp only [List.length_map, List.length_cons, List.length_nil]; exact hll)); (focus (simp)); (intro v' h' hB' ho' hK' hE' hX'; have hcc' := hB'.blt.cells; have htt' := hB'.blt.tup; simp only [AV.cells] at hcc'; simp only [isTuple] at htt'; simp only [pM, pN])) | refine go1 ?_ | (apply U6; exact Z1; exact Z1; (exact k90); simp only [pM, pN, rR, rP]) | (refine go2 ?_ ?_ <;> intro hh) | fail)
  have hg2 : h'.get ow = some (.rw 1 els) := (hK'.2 ow HL9.out (fun off n e => B3.out _ _ _ 0 0 e rfl)).trans E1.out
  have hoc2 : h'.get oc = some (.var [.row ow 0 m.hands.length]) := (hK'.2 oc LOC.out HBO.out).trans hoc
  have hix10 := own_idx (n := m.hands.length) hg2 HK.out
  have HKK := J1 hK'
  have HEE := J1 hE'
  have HBB := J1 hB'
  have HG2 := J1 hg2
  clear hK' hE' hB' hA hll
  repeat' (first | (apply W.draw (id := 11) (lc := [0, 1, 2, 3, 4, 5, 6, 7, 8, 9, 10]) (hot := [(0, 8)]); kernel_rfl; kernel_rfl; kernel_rfl; exact Z4) | (apply WD.cons (o := ⟨some 46, _, _, _, _, none⟩); exact rfl; exact rfl) | (apply WD.cons (o := ⟨some 47, _, _, _, _, none⟩); exact rfl; exact rfl) | (apply WD.cons (o := ⟨none, .store 36 (.tmp 47) (.tmp 46), _, _, _, none⟩); exact rfl; exact rfl) | (refine WD.cons rfl rfl ?_) | (refine WD.nil ⟨?_, ?_⟩; rotate_left; simp only [tN, bN, eN, true_and]) | (refine calmR rfl rfl rfl rfl rfl ?_ ?_; (focus (first | exact Z2 | exact Z1))) | (refine calmE rfl rfl rfl rfl rfl ?_ ?_; (focus (first | exact Z2 | exact Z1))) | (with_reducible refine calmEnd) | (apply U5; exact rfl; (focus (intro cl rd; simp only [go_sem, *, Nat.reduceLT, Int.reduceEq, Int.reduceBEq, Int.reduceLE, Int.reduceLT, Nat.reduceAdd, Nat.reduceBEq, Nat.reduceEqDiff, reduceIte, Nat.reduceLeDiff, Nat.reduceMul, Nat.reduceSub, reduceCtorEq, efV, Fr.storeE, AV.cells, isTuple, write_eptr, splice, asElem, isAggV]; with_reducible rfl)); simp only [pM, pN]) | refine go1 ?_ | (apply U6; exact Z1; exact Z1; (exact k90); simp only [pM, pN, rR, rP]) | (refine go2 ?_ ?_ <;> intro hh) | fail)
  all_goals refine HGO.out _ _ _ ?_ ?_ ?_ ?_
  all_goals first | exact J7 | skip
  all_goals
   have hput := own_put (h2 := h'.put ow (.rw 1 (els.set k v'))) HI1.out HK.out E1.out B1.out Q1.out Q2.out Q3.out HP0.out HAP1.out HKK.out HEE.out HBB.out.blt rfl (by rw [Heap.get_put, if_pos rfl]) (fun id hid => by rw [Heap.get_put, if_neg (fun e => hid e.symm)])
   try simp only [if_true]
   first | exact hput.1 | exact hput.2
end
end Go.AM
