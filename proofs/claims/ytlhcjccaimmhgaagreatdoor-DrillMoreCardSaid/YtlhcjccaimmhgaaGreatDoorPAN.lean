/-
  A part of the proof: contracts of functions.
-/
import Derived.Test.YtlhcjccaimmhgaaGreatDoorPAM
import Derived.Test.YtlhcjccaimmhgaaGreatDoorPAK
import Derived.Test.YtlhcjccaimmhgaaGreatDoorPAI
set_option linter.unusedSectionVars false
set_option linter.unusedVariables false
set_option linter.unusedSimpArgs false
set_option maxRecDepth 100000
namespace Go.AM
open Go Go.Proofs
variable [Keep]
attribute [local irreducible] W WO WO1 WD WQ WT thenQ blockQ endR isRet retK Cl ClR
attribute [local irreducible] roundQ RdR
theorem calm_end {X : Ctx} {f : FuncId} {ops : Array Oper} {ts : List (Nat × Trace)} : ([] : List (Nat × Nat)).all (calmPair X f ops ts) = true := rfl
def natsV (p : List Nat) : List AV := p.map fun k : Nat => AV.int .i64 (k : Int)
theorem natsV_len (p : List Nat) : (natsV p).length = p.length := by simp [natsV]
theorem natsV_ints (p : List Nat) : natsV p = (p.map fun k : Nat => (k : Int)).map intC.enc := by simp [natsV, intC]
theorem natsV_pur (p : List Nat) : ∀ a ∈ natsV p, a.pur = true := by
 intro a ha
 obtain ⟨k, _, rfl⟩ := List.mem_map.1 ha
 rfl
theorem purL_all : ∀ {l : List AV}, (∀ a ∈ l, a.pur = true) → AV.purL l = true := by
 intro l
 induction l with
 | nil => intro _; rfl
 | cons a l ih =>
  intro h
  simp only [AV.purL, Bool.and_eq_true]
  exact ⟨h a (by simp), ih (fun b hb => h b (by simp [hb]))⟩
theorem Blt.seen {h : Heap} {v : AV} {sz : Nat} {l : List AV} (b : Blt h v sz l) (hp : ∀ a ∈ l, a.pur = true) : viewV h v = some (slN l) := by
 rcases b with ⟨rfl, rfl⟩ | ⟨id, rfl, hg, h3, hne⟩
 ·rfl
 ·have h1 : AV.purL l = true := purL_all hp
  cases l with
  | nil => exact absurd rfl hne
  | cons x l => simp [viewV, hg, h1, slN]
section
variable {X : Ctx} {ops : Array Oper} {K P : AV → Fr → Prop} {F : Fr} {d : Option Tmp} {T : TypeId} {p : String} {af : Array Edge}
theorem WO1.append0 {args : Array Operand} {at_ : Array TypeId} {t u e e' : TypeId} {tl : List TypeId} {sz : Nat} {x y : AV} {new : List AV} (hx : x = .vempty ∨ x = .nilslice) (hargs : F.opvs args.toList = some [x, y]) (ht : at_.toList = t :: u :: tl) (hu : X.P.underlying u = some (.slice e'))
  (hel : elemT X.P t = some e) (hs : szT X.P e = sz) (hrow : rowable X.P e = true) (hy : F.hp.elems y = some new) (hsz : ∀ v ∈ new, v.cells.length = sz) (hlen : new.length ≤ most) (hne : new ≠ [])
  (h : K (.row F.hp.next 0 new.length) (({ F with hp := F.hp.new (.rw sz new) } : Fr).put d (.row F.hp.next 0 new.length))) : WO1 X ops ⟨d, .call ⟨.builtin .append, args, at_⟩, T, p, af, none⟩ F K P := by
 subst hs
 have h1 : (new.all fun v => v.cells.length == szT X.P e) = true := List.all_eq_true.2 fun v hv => by simpa using hsz v hv
 have h2 : ¬ new.length = 0 := by simpa using hne
 have e1 : appendV X.P F t x new = some (.row F.hp.next 0 new.length, { F with hp := F.hp.new (.rw (szT X.P e) new) }) := by
  rcases hx with rfl | rfl <;> simp [appendV, hel, h1, hrow, hlen, h2, hne]
 refine U5 (v := .row F.hp.next 0 new.length) (F' := { F with hp := F.hp.new (.rw (szT X.P e) new) }) rfl (fun cl rd => ?_) h
 simp only [efV, Fr.callOp, Fr.builtinE, Fr.appendE, ht, hargs, hu]
 cases y <;> first | (simp only [hy, e1, okO]; done) | simp [Heap.elems] at hy
end
theorem K166 {X : Ctx} (hX : X.intr 166 = some (flatFn sp166)) (a : AV) (l : List Int) (v : Int) (ha : slV intC a = some l) (h : Heap) : Cl X 166 [a, .int .i64 v] h (.ret (.int .i64 (idxOf (fun x => decide (v = x)) l)) h none) :=
 Cl.intr hX (by simp [flatFn, viewVs, view_pur (sl_pur ha), view_pur (a := .int .i64 v) rfl, sp166, ha])
def sp116 : List AV → Option AV
 | [a, .int .i64 v] => (slV intC a).map fun l => .bool (l.any fun x => decide (v = x))
 | _ => none
theorem p116 : ∀ args v, sp116 args = some v → v.flat = true := by
 intro args v h
 unfold sp116 at h
 split at h
 ·simp only [Option.map_eq_some_iff] at h; obtain ⟨l, _, rfl⟩ := h; rfl
 ·cases h
noncomputable def cFA : Itr
 | 166 => some (flatFn sp166)
 | _ => none
theorem cFA_sound : Sound (dX cFA) := dX_sound (fun f g h => by
 unfold cFA at h
 split at h
 ·cases h; exact F166
 ·cases h)
theorem F116 : IntrFn Tryz.prog 116 (flatFn sp116) := by
 refine flat_fn (X := dX cFA) cFA_sound p116 ?_
 intro args v h
 unfold sp116 at h
 split at h
 ·rename_i a v
  simp only [Option.map_eq_some_iff] at h
  obtain ⟨l, hl, rfl⟩ := h
  have hout := sl_out hl
  have hb := idxOf_any (fun x => decide (v = x)) l
  rw [← hb]
  have k166 : ∀ h, Cl (dX cFA) 166 [a, .int .i64 v] h (.ret (.int .i64 (idxOf (fun x => decide (v = x)) l)) h none) := fun h => K166 rfl a l v hl h
  generalize idxOf (fun x => decide (v = x)) l = n at *
  clear hl hb
  refine ClR.walk (c := _) rfl Tryz.func116 rfl (by kernel_rfl) rfl isRet_fail ?_
  simp only [entryEnv, Nat.reduceAdd]
  repeat' (first | refine goS ?_ | (apply U6; exact Z1; exact Z1; (focus (simp only [List.nil_append, List.append_nil]; first | exact k166 _)); simp only [pM, pN, rR, rP]) | refine go2 (fun hh => ?_) (fun hh => ?_) | fail)
  all_goals (simp only [resV_def (X := dX cFA) Tryz.func116, Tryz.results116]; first | exact J5 | refine J6 ?_)
 ·cases h
theorem any_nats (p : List Nat) (v : Nat) : (p.map fun k : Nat => (k : Int)).any (fun x => decide ((v : Int) = x)) = p.contains v := by
 induction p with
 | nil => rfl
 | cons a p ih =>
  simp only [List.map_cons, List.any_cons, List.contains_cons, ih]
  congr 1
  rw [Bool.eq_iff_iff]
  simp
  omega
theorem K116 {X : Ctx} (hX : X.intr 116 = some (flatFn sp116)) (a : AV) (p : List Nat) (v : Nat) (h : Heap) (b : Blt h a 1 (natsV p)) (hm : p.length ≤ maxL) : Cl X 116 [a, .int .i64 (v : Nat)] h (.ret (.bool (p.contains v)) h none) :=
 Cl.intr hX (by
  have e1 := b.seen (natsV_pur p)
  have e2 : slV intC (slN (natsV p)) = some (p.map fun k : Nat => (k : Int)) := by
   rw [natsV_ints]
   exact slV_slN (by simpa using hm)
  have e3 := any_nats p v
  simp only [flatFn, viewVs, e1, view_pur (a := .int .i64 (v : Int)) rfl, sp116, e2, Option.map_some, e3])
def clR (h : Heap) (l : List AV) (r : COut) : Prop := ∃ v h', r = .ret v h' none ∧ BltN h.next h' v 1 l ∧ HExt h h'
theorem clR_fail {h : Heap} {l : List AV} : ¬ clR h l .fail := by rintro ⟨_, _, e, _⟩; cases e
theorem clR_ret {h h' : Heap} {v : AV} {l : List AV} (b : BltN h.next h' v 1 l) (x : HExt h h') : clR h l (.ret v h' none) := ⟨v, h', rfl, b, x⟩
attribute [local irreducible] clR
theorem hext_new (h : Heap) (b : Blk) : HExt h (h.new b) := ⟨Nat.le_succ _, fun id hi => by rw [Heap.get_new, if_neg (by omega)]⟩
theorem eq39n : binV Tryz.prog .eql 39 true .nilslice .nilslice = some (.bool true) := by
 simp [binV, eqOp, eqV, isSliceT, whenB, Tryz.underlying39]
theorem eq39r (id n : Nat) : binV Tryz.prog .eql 39 true (.row id 0 n) .nilslice = some (.bool false) := by
 simp [binV, eqOp, eqV, isSliceT, whenB, Tryz.underlying39]
theorem C118 (c : Itr) (hc : c 118 = none) (a : AV) (p : List Nat) (h : Heap) (b : Blt h a 1 (natsV p)) (hm : p.length ≤ 1000) : ClR (dX c) 118 [a] h (clR h (natsV p)) := by
 have hsz : ∀ v ∈ natsV p, v.cells.length = 1 := fun v hv => by
  obtain ⟨k, _, rfl⟩ := List.mem_map.1 hv
  rfl
 have hlen : (natsV p).length ≤ most := by rw [natsV_len]; unfold most; omega
 refine ClR.walk (c := _) hc Tryz.func118 rfl (by kernel_rfl) rfl clR_fail ?_
 simp only [entryEnv, Nat.reduceAdd]
 rcases b with ⟨rfl, hnil⟩ | ⟨id, rfl, hg, hid, hne⟩
 ·have HN := Lib.hid hnil
  have hq := eq39n
  clear hsz hlen hnil
  repeat' (first | refine goS ?_ | refine go2 (fun hh => ?_) (fun hh => ?_) | fail)
  all_goals (simp only [resV_def (X := dX c) Tryz.func118, Tryz.results118]; first | exact J5 | refine J6 ?_)
  rw [HN.out]
  exact clR_ret BltN.nil (HExt.refl h)
 ·have hel : h.elems (.row id 0 (natsV p).length) = some (natsV p) := by simp [Heap.elems, hg]
  have hq := eq39r id (natsV p).length
  have HG := Lib.hid hg
  have HI := Lib.hid hid
  clear hg hid
  repeat' (first | (apply WO1.append0 (t := 39) (u := 39) (e := 3) (e' := 3) (sz := 1) (tl := []) (new := natsV p) (hx := .inl rfl); exact Z1; exact rfl; exact Z2; exact Z2; exact Z2; (focus (exact ty_row39)); (focus (first | exact Z2 | exact hel)); (focus (exact hsz)); (focus (exact hlen)); (focus (exact hne)); simp only [pM, pN]) | refine go1 ?_ | refine go2 (fun hh => ?_) (fun hh => ?_) | fail)
  all_goals (simp only [resV_def (X := dX c) Tryz.func118, Tryz.results118]; first | exact J5 | refine J6 ?_)
  refine clR_ret (.inr ⟨h.next, rfl, ?_, Nat.le_refl _, Nat.lt_succ_self _, hne⟩) (hext_new _ _)
  rw [Heap.get_new, if_pos rfl]
end Go.AM
namespace Go.AM
open Go Go.Proofs
variable [Keep]
attribute [local irreducible] W WO WO1 WD WQ WT thenQ blockQ endR isRet retK Cl ClR
attribute [local irreducible] roundQ RdR clR
def srch (n : Nat) (acc : List Nat → Bool) : Nat → List Nat → Option (List Nat)
 | 0, p => if acc p then some p else none
 | d + 1, p => (List.range n).findSome? fun i => if p.contains i then none else srch n acc d (p ++ [i])
def seaR (h : Heap) (D : List Nat → Heap → Prop) (x : Option (List Nat)) (r : COut) : Prop :=
 ∃ h', (x = none ∧ r = .ret (.bool true) h' none ∧ HExt h h') ∨ (∃ o, x = some o ∧ r = .ret (.bool false) h' none ∧ D o h')
theorem seaR_fail {h : Heap} {D : List Nat → Heap → Prop} {x : Option (List Nat)} : ¬ seaR h D x .fail := by
 rintro ⟨h', ⟨_, e, _⟩ | ⟨o, _, e, _⟩⟩ <;> cases e
theorem seaR_no {h h' : Heap} {D : List Nat → Heap → Prop} {x : Option (List Nat)} (e : x = none) (k : HExt h h') : seaR h D x (.ret (.bool true) h' none) := ⟨h', .inl ⟨e, rfl, k⟩⟩
theorem seaR_yes {h h' : Heap} {D : List Nat → Heap → Prop} {x : Option (List Nat)} {o : List Nat} (e : x = some o) (k : D o h') : seaR h D x (.ret (.bool false) h' none) := ⟨h', .inr ⟨o, e, rfl, k⟩⟩
theorem find_none {α : Type} {n : Nat} {f : Nat → Option α} (h : ∀ j, j < n → f j = none) : (List.range n).findSome? f = none := by
 rw [List.findSome?_eq_none_iff]
 intro j hj
 exact h j (by simpa using hj)
theorem find_some {α : Type} {f : Nat → Option α} {o : α} : ∀ {n i : Nat}, (∀ j, j < i → f j = none) → f i = some o → i < n → (List.range n).findSome? f = some o := by
 intro n
 induction n with
 | zero => intro i _ _ h; omega
 | succ n ih =>
  intro i h1 h2 h3
  rw [List.range_succ, List.findSome?_append]
  by_cases hi : i < n
  ·rw [ih h1 h2 hi]; rfl
  ·obtain rfl : i = n := by omega
   rw [find_none h1]
   simp [h2]
def NatsLt (n : Nat) (p : List Nat) : Prop := ∀ k ∈ p, k < n
set_option maxHeartbeats 4000000 in
theorem C168 (c : Itr) (hc : c 168 = none) (hc2 : c 116 = some (flatFn sp116)) (hc3 : c 118 = none) (n L bm bn bs : Nat) (hn : n ≤ 8) (hb : Heap) (D : List Nat → Heap → Prop) (acc : List Nat → Bool)
  (g1 : hb.get bm = some (.var [.int .i64 ↑n])) (g2 : hb.get bn = some (.var [.yield L])) (g3 : hb.get bs = some (.var [.func (.func 168) [] [.ptr bm 0, .ptr bn 0, .ptr bs 0]])) (l1 : bm < hb.next) (l2 : bn < hb.next) (l3 : bs < hb.next)
  (hrd : ∀ o a h, HExt hb h → o.length = n → NatsLt n o → Blt h a 1 (natsV o) → RdR (dX c) L [a] h (seaR h D (if acc o then some o else none))) :
  ∀ d p a h, p.length + d = n → NatsLt n p → HExt hb h → Blt h a 1 (natsV p) → ClR (dX c) 168 [a, .ptr bm 0, .ptr bn 0, .ptr bs 0] h (seaR h D (srch n acc d p)) := by
 intro d
 induction d with
 | zero =>
  intro p a h hd hlt hx b
  have hR := hrd p a h hx (by omega) hlt b
  have q1 := (hx.2 bm l1).trans g1
  have q2 := (hx.2 bn l2).trans g2
  have hlen := b.len
  have hout := b.out
  have e1 : (((natsV p).length : Int) == (n : Int)) = true := by rw [natsV_len]; simp; omega
  unfold RdR at hR
  obtain ⟨r, hyl, hq⟩ := hR
  have hs : srch n acc 0 p = (if acc p then some p else none) := rfl
  rw [hs]
  generalize (if acc p then some p else none) = x at *
  have HL := Lib.hid hlt
  have HR := Lib.hid hrd
  have HX := Lib.hid hx
  have HB := Lib.hid b
  clear hlt hrd hx b hs g1 g2 g3 hd
  obtain ⟨h', ⟨ex, rfl, k⟩ | ⟨o, ex, rfl, k⟩⟩ := hq
  ·have EX := Lib.hid ex
   clear ex
   refine ClR.walk (c := _) hc Tryz.func168 rfl (by kernel_rfl) rfl seaR_fail ?_
   simp only [entryEnv, Nat.reduceAdd]
   repeat' (first | (apply WO1.round; exact Z1; exact Z1; (focus (exact hyl)); simp only [pM, pN, rR, rP]) | refine go1 ?_ | refine go2 (fun hh => ?_) (fun hh => ?_) | fail)
   all_goals (simp only [resV_def (X := dX c) Tryz.func168, Tryz.results168]; first | exact J5 | refine J6 ?_)
   exact seaR_no EX.out k
  ·have EX := Lib.hid ex
   clear ex
   refine ClR.walk (c := _) hc Tryz.func168 rfl (by kernel_rfl) rfl seaR_fail ?_
   simp only [entryEnv, Nat.reduceAdd]
   repeat' (first | (apply WO1.round; exact Z1; exact Z1; (focus (exact hyl)); simp only [pM, pN, rR, rP]) | refine go1 ?_ | refine go2 (fun hh => ?_) (fun hh => ?_) | fail)
   all_goals (simp only [resV_def (X := dX c) Tryz.func168, Tryz.results168]; first | exact J5 | refine J6 ?_)
   exact seaR_yes EX.out k
 | succ d ih =>
  intro p a h hd hlt hx b
  have q1 := (hx.2 bm l1).trans g1
  have hlen := b.len
  have hout := b.out
  have e1 : (((natsV p).length : Int) == (n : Int)) = false := by rw [natsV_len]; simp; omega
  have HL := Lib.hid hlt
  have HX := Lib.hid hx
  have HB := Lib.hid b
  have HIH := Lib.hid ih
  have HG2 := Lib.hid g2
  have HG3 := Lib.hid g3
  have HG1 := Lib.hid g1
  clear hlt hrd hx b g1 g2 g3 ih
  have hs : srch n acc (d + 1) p = (List.range n).findSome? (fun i => if p.contains i then none else srch n acc d (p ++ [i])) := rfl
  rw [hs]
  have HS := Lib.hid hs
  clear hs
  refine ClR.walk (c := _) hc Tryz.func168 rfl (by kernel_rfl) rfl seaR_fail ?_
  simp only [entryEnv, Nat.reduceAdd]
  repeat' (first | refine goS ?_ | refine go2 (fun hh => ?_) (fun hh => ?_) | fail)
  refine W.loopN n (fun i F => ∃ e hp, F = Fr.mk 168 false e .nil hp [] none ∧ HExt h hp ∧ (∀ j, j < i → (if p.contains j then none else srch n acc d (p ++ [j])) = none) ∧ e.get 0 = some a ∧ e.get 1 = some (.ptr bm 0) ∧ e.get 2 = some (.ptr bn 0) ∧ e.get 3 = some (.ptr bs 0) ∧ e.get 14 = some (.int .i64 ↑n) ∧ e.get 15 = some (.int .i64 ↑i) ∧ i ≤ n) ?_ ?_
  ·refine ⟨_, _, rfl, HExt.refl h, fun j hj => absurd hj (by omega), ?_, ?_, ?_, ?_, ?_, ?_, ?_⟩ <;> first | exact Z2 | simp [go_sem, *]
  rintro i F ⟨e, hp, rfl, hx0, hno, h0, h1, h2, h3, h14, h15, hi⟩
  have hx1 : HExt hb hp := HX.out.trans hx0
  have HNO := Lib.hid hno
  clear hno q1
  by_cases hin : i < n
  ·have hdl : decide ((i : Int) < (n : Int)) = true := by simpa using hin
   have hw := wrap_succ hin (by unfold maxL; omega)
   have hb0 : Blt hp a 1 (natsV p) := by
    rcases HB.out with q | ⟨id, r1, r2, r3, r4⟩
    ·exact .inl q
    ·exact .inr ⟨id, r1, (hx0.2 id r3).trans r2, Nat.lt_of_lt_of_le r3 hx0.1, r4⟩
   have k116 : ∀ hq : Heap, hq = hp → Cl (dX c) 116 [a, .int .i64 ↑i] hq (.ret (.bool (p.contains i)) hq none) := fun hq e => by subst e; exact K116 hc2 a p i hq hb0 (by unfold maxL; omega)
   have k116 := k116 hp rfl
   cases hpi : p.contains i with
   | true =>
    rw [hpi] at k116
    clear hb0
    have HX0 := Lib.hid hx0
    clear hx0 hx1
    repeat' (first | (apply W.draw (id := 6) (lc := [0, 1, 2, 3, 4, 5, 6, 7, 8, 9, 10, 11, 12, 13]) (hot := [(5, 7), (5, 10)]); kernel_rfl; kernel_rfl; kernel_rfl; exact Z4) | (refine WD.nil ⟨?_, ?_⟩; rotate_left; simp only [tN, bN, eN, true_and]) | (refine WD.cons rfl rfl ?_) | (refine calm_end) | (refine calmGN (b := false) rfl rfl rfl rfl rfl rfl rfl ?_ rfl ?_; (focus exact Z2)) | refine go1 ?_ | (apply U6; exact Z1; exact Z1; (focus (simp only [List.nil_append, List.append_nil]; first | exact k116)); simp only [pM, pN, rR, rP]) | refine go2 (fun hh => ?_) (fun hh => ?_) | fail)
    refine ⟨hin, _, _, rfl, HX0.out, fun j hj => ?_, ?_, ?_, ?_, ?_, ?_, ?_, by omega⟩
    ·rcases Nat.lt_or_ge j i with q | q
     ·exact HNO.out j q
     ·obtain rfl : j = i := by omega
      rw [if_pos hpi]
    all_goals exact Z2
   | false =>
    rw [hpi] at k116
    have q3 := (hx1.2 bs l3).trans HG3.out
    have hcl0 := C118 c hc3 a p hp hb0 (by omega)
    unfold ClR at hcl0
    obtain ⟨r1, hcl, hcr⟩ := hcl0
    unfold clR at hcr
    obtain ⟨v1, hp1, rfl, hB1, hX1⟩ := hcr
    have ho1 := hB1.blt.out
    have hX1e : hp.next ≤ hp1.next ∧ ∀ id, id < hp.next → hp1.get id = hp.get id := hX1
    have q4 := (hX1.2 bs (Nat.lt_of_lt_of_le l3 hx1.1)).trans q3
    have hll : p.length + (0 + 1) ≤ most := by unfold most; omega
    have HX0 := Lib.hid hx0
    have HX1 := Lib.hid hx1
    clear hx0 hx1 hb0
    repeat' (first | (apply W.draw (id := 6) (lc := [0, 1, 2, 3, 4, 5, 6, 7, 8, 9, 10, 11, 12, 13]) (hot := [(5, 7), (5, 10)]); kernel_rfl; kernel_rfl; kernel_rfl; exact Z4) | (apply U6; exact Z1; exact Z1; (focus (exact hcl)); simp only [pM, pN, rR, rP]) | (apply WO1.appendN (t := 39) (u := 39) (e := 3) (e' := 3) (sz := 1) (tl := []) (b := hp.next) (h0 := hp); (focus (exact hB1)); (focus (exact hX1e)); exact Z1; exact rfl; exact Z2; exact Z2; exact Z2; (focus (exact ty_row39)); exact Z1; (focus (intro v hv; simp at hv; subst hv; rfl)); (focus (simp only [natsV_len, List.length_cons, List.length_nil]; exact hll)); (focus (simp)); (intro v2 hp2 hB2 ho2 hX2; simp only [pM, pN])) | (refine WD.nil ⟨?_, ?_⟩; rotate_left; simp only [tN, bN, eN, true_and]) | (refine WD.cons rfl rfl ?_) | refine go1 ?_ | (apply U6; exact Z1; exact Z1; (focus (simp only [List.nil_append, List.append_nil]; first | exact k116)); simp only [pM, pN, rR, rP]) | refine go2 (fun hh => ?_) (fun hh => ?_) | fail)
    have hrec := HIH.out (p ++ [i]) v2 hp2 (by simp; omega) (fun k hk => by
     rcases List.mem_append.1 hk with q | q
     ·exact HL.out k q
     ·simp at q; omega) (HX1.out.trans ⟨hX2.1, hX2.2⟩) (by simpa [natsV] using hB2.blt)
    unfold ClR at hrec
    obtain ⟨r, hrec, h3', ⟨ex, rfl, k⟩ | ⟨o, ex, rfl, k⟩⟩ := hrec
    ·have EX := Lib.hid ex
     have q5 : hp2.get bs = _ := (hX2.2 bs (Nat.lt_of_lt_of_le l3 HX1.out.1)).trans q3
     have hx5 : HExt hp h3' := HExt.trans ⟨hX2.1, hX2.2⟩ k
     have HX5 := Lib.hid hx5
     clear ex k hx5
     repeat' (first | (refine WD.nil ⟨?_, ?_⟩; rotate_left; simp only [tN, bN, eN, true_and]) | (refine WD.cons rfl rfl ?_) | (refine calm_end) | (refine calmG rfl rfl rfl rfl rfl rfl rfl ?_ ?_ ?_; (focus exact Z2); (focus (first | exact Z2 | exact Z1))) | refine go1 ?_ | (apply U6; exact Z1; exact Z1; (focus (simp only [List.nil_append, List.append_nil]; first | exact hrec)); simp only [pM, pN, rR, rP]) | refine go2 (fun hh => ?_) (fun hh => ?_) | fail)
     refine ⟨hin, _, _, rfl, HX0.out.trans HX5.out, fun j hj => ?_, ?_, ?_, ?_, ?_, ?_, ?_, by omega⟩
     ·rcases Nat.lt_or_ge j i with q | q
      ·exact HNO.out j q
      ·obtain rfl : j = i := by omega
       rw [if_neg (by rw [hpi]; simp)]
       exact EX.out
     all_goals exact Z2
    ·have EX := Lib.hid ex
     have q5 : hp2.get bs = _ := (hX2.2 bs (Nat.lt_of_lt_of_le l3 HX1.out.1)).trans q3
     clear ex
     repeat' (first | (refine WD.nil ⟨?_, ?_⟩; rotate_left; simp only [tN, bN, eN, true_and]) | (refine WD.cons rfl rfl ?_) | (refine calm_end) | (refine calmG rfl rfl rfl rfl rfl rfl rfl ?_ ?_ ?_; (focus exact Z2); (focus (first | exact Z2 | exact Z1))) | refine go1 ?_ | (apply U6; exact Z1; exact Z1; (focus (simp only [List.nil_append, List.append_nil]; first | exact hrec)); simp only [pM, pN, rR, rP]) | refine go2 (fun hh => ?_) (fun hh => ?_) | fail)
     all_goals (simp only [resV_def (X := dX c) Tryz.func168, Tryz.results168]; first | exact J5 | refine J6 ?_)
     refine seaR_yes (find_some HNO.out ?_ hin) k
     rw [if_neg (by rw [hpi]; simp)]
     exact EX.out
  ·have hdl : decide ((i : Int) < (n : Int)) = false := by simpa using hin
   have hin2 : i = n := by omega
   subst hin2
   have HX0 := Lib.hid hx0
   clear hx0 hx1
   repeat' (first | refine goS ?_ | refine go2 (fun hh => ?_) (fun hh => ?_) | fail)
   all_goals (simp only [resV_def (X := dX c) Tryz.func168, Tryz.results168]; first | exact J5 | refine J6 ?_)
   exact seaR_no (find_none HNO.out) HX0.out
end Go.AM
namespace Go.AM
open Go Go.Proofs
variable [Keep]
attribute [local irreducible] W WO WO1 WD WQ WT thenQ blockQ endR isRet retK Cl ClR
attribute [local irreducible] roundQ RdR clR
def seaU (h : Heap) (D : List Nat → Heap → Prop) (x : Option (List Nat)) (r : COut) : Prop :=
 ∃ h', (x = none ∧ r = .ret (.tuple []) h' none ∧ HExt h h') ∨ (∃ o, x = some o ∧ r = .ret (.tuple []) h' none ∧ D o h')
theorem seaU_fail {h : Heap} {D : List Nat → Heap → Prop} {x : Option (List Nat)} : ¬ seaU h D x .fail := by
 rintro ⟨h', ⟨_, e, _⟩ | ⟨o, _, e, _⟩⟩ <;> cases e
theorem seaU_no {h h' : Heap} {D : List Nat → Heap → Prop} {x : Option (List Nat)} (e : x = none) (k : HExt h h') : seaU h D x (.ret (.tuple []) h' none) := ⟨h', .inl ⟨e, rfl, k⟩⟩
theorem seaU_yes {h h' : Heap} {D : List Nat → Heap → Prop} {x : Option (List Nat)} {o : List Nat} (e : x = some o) (k : D o h') : seaU h D x (.ret (.tuple []) h' none) := ⟨h', .inr ⟨o, e, rfl, k⟩⟩
theorem C121 (c : Itr) (hc : c 121 = none) (n : Int) (pn : Nat) (pm : Mp Blk) :
  Cl (dX c) 121 [.int .i64 n] ⟨pn, pm⟩ (.ret (.func (.func 167) [] [.ptr pn 0]) ⟨pn + 1, pm.set pn (.var [.int .i64 n])⟩ none) := by
 refine ClR.cl ?_
 refine ClR.walk (c := _) hc Tryz.func121 rfl (by kernel_rfl) rfl (fun e => by cases e) ?_
 simp only [entryEnv, Nat.reduceAdd]
 repeat' (first | refine goS ?_ | refine go2 (fun hh => ?_) (fun hh => ?_) | fail)
 all_goals (simp only [resV_def (X := dX c) Tryz.func121, Tryz.results121]; first | exact J5 | refine J6 ?_)
 have e1 : ∀ (h : Heap) f a b, frz1 h (.func f a b) = some (.func f a b, h) := fun _ _ _ _ => rfl
 simp only [isR, frzRes, dX_frz, dFrz, freeze, frz2, e1, if_true]
theorem hget_set {pn : Nat} {pm : Mp Blk} {n i : Nat} {b : Blk} : (Heap.get ⟨pn, pm.set i b⟩ n) = if i = n then some b else Heap.get ⟨pn, pm⟩ n := by
 simp only [Heap.get, Mp.get_set]
set_option maxHeartbeats 1000000 in
theorem C167 (c : Itr) (hc : c 167 = none) (hc1 : c 168 = none) (hc2 : c 116 = some (flatFn sp116)) (hc3 : c 118 = none) (n L bm : Nat) (hn : n ≤ 8) (h : Heap) (D : List Nat → Heap → Prop) (acc : List Nat → Bool)
  (g1 : h.get bm = some (.var [.int .i64 ↑n])) (l1 : bm < h.next)
  (hrd : ∀ o a h1, HExt h h1 → o.length = n → NatsLt n o → Blt h1 a 1 (natsV o) → RdR (dX c) L [a] h1 (seaR h1 D (if acc o then some o else none))) :
  ClR (dX c) 167 [.yield L, .ptr bm 0] h (seaU h D (srch n acc n [])) := by
 obtain ⟨pn, pm⟩ := h
 simp only at l1
 have hx : HExt ⟨pn, pm⟩ ⟨pn + 1 + 1, ((pm.set pn (.var [.yield L])).set (pn + 1) (.var [.nilfunc])).set (pn + 1) (.var [.func (.func 168) [] [.ptr bm 0, .ptr pn 0, .ptr (pn + 1) 0]])⟩ := by
  refine ⟨by simp only; omega, fun id hid => ?_⟩
  simp only at hid
  rw [hget_set, if_neg (by omega), hget_set, if_neg (by omega), hget_set, if_neg (by omega)]
  rfl
 have hrec := C168 c hc1 hc2 hc3 n L bm pn (pn + 1) hn ⟨pn + 1 + 1, ((pm.set pn (.var [.yield L])).set (pn + 1) (.var [.nilfunc])).set (pn + 1) (.var [.func (.func 168) [] [.ptr bm 0, .ptr pn 0, .ptr (pn + 1) 0]])⟩ D acc
  ((hx.2 bm l1).trans g1) (by rw [hget_set, if_neg (by omega), hget_set, if_neg (by omega), hget_set, if_pos rfl]) (by rw [hget_set, if_pos rfl]) (by simp only; omega) (by simp only; omega) (by simp only; omega)
  (fun o a h1 k => hrd o a h1 (hx.trans k)) n [] .nilslice _ (by simp) (fun k hk => by simp at hk) (HExt.refl _) Blt.nil
 unfold ClR at hrec
 obtain ⟨r, hrec, h', ⟨ex, rfl, k⟩ | ⟨o, ex, rfl, k⟩⟩ := hrec
 ·have EX := Lib.hid ex
  have HX := Lib.hid hx
  have HK := Lib.hid k
  clear ex hx g1 hrd k
  refine ClR.walk (c := _) hc Tryz.func167 rfl (by kernel_rfl) rfl seaU_fail ?_
  simp only [entryEnv, Nat.reduceAdd]
  repeat' (first | (apply U6; exact Z1; exact Z1; (focus (exact hrec)); simp only [pM, pN, rR, rP]) | refine go1 ?_ | refine go2 (fun hh => ?_) (fun hh => ?_) | fail)
  all_goals (simp only [resV_def (X := dX c) Tryz.func167, Tryz.results167]; first | exact J5 | refine J6 ?_)
  exact seaU_no EX.out (HX.out.trans HK.out)
 ·have EX := Lib.hid ex
  have HX := Lib.hid hx
  have HK := Lib.hid k
  clear ex hx g1 hrd k
  refine ClR.walk (c := _) hc Tryz.func167 rfl (by kernel_rfl) rfl seaU_fail ?_
  simp only [entryEnv, Nat.reduceAdd]
  repeat' (first | (apply U6; exact Z1; exact Z1; (focus (exact hrec)); simp only [pM, pN, rR, rP]) | refine go1 ?_ | refine go2 (fun hh => ?_) (fun hh => ?_) | fail)
  all_goals (simp only [resV_def (X := dX c) Tryz.func167, Tryz.results167]; first | exact J5 | refine J6 ?_)
  exact seaU_yes EX.out HK.out
end Go.AM
namespace Go.AM
open Go Go.Proofs
variable [Keep]
attribute [local irreducible] W WO WO1 WD WQ WT thenQ blockQ endR isRet retK Cl ClR
attribute [local irreducible] roundQ RdR clR
def offB (off : Int) (p q : Pt) : Bool := okPt off ⟨w64 (p.x - q.x), w64 (p.y - q.y)⟩
def accB (off : Int) (hs ps : List Pt) (t : Int) (o : List Nat) : Bool := (List.range hs.length).all fun i => offB off (turnP t (ps.getD (o.getD i 0) ⟨0, 0⟩)) (hs.getD i ⟨0, 0⟩)
def matchS (off : Int) (hs ps : List Pt) : Option (Nat × List Nat) := (List.range 8).findSome? fun t : Nat => (srch ps.length (accB off hs ps (t : Nat)) ps.length []).map fun o => ((t : Nat), o)
def matchV : Option (Nat × List Nat) → AV
 | some (t, o) => .tuple [.int .i64 (t : Int), slN (natsV o), .bool true]
 | none => .tuple [.int .i64 0, .nilslice, .bool false]
def sp100 : List AV → Option AV
 | [.agg [ca, .int .i64 off], la] => match slV ptC ca, slV ptC la with
  | some hs, some ps => if (decide (hs.length = ps.length) && decide (1 ≤ ps.length) && decide (ps.length ≤ 8)) = true then some (matchV (matchS off hs ps)) else none
  | _, _ => none
 | _ => none
theorem p100 : ∀ args v, sp100 args = some v → v.pur = true := by
 intro args v h
 unfold sp100 at h
 split at h
 ·split at h
  ·split at h
   ·have h := Option.some.inj h
    subst h
    unfold matchV
    split
    ·simp [AV.pur, AV.purL, slN_pur (natsV_pur _)]
    ·rfl
   ·cases h
  ·cases h
 ·cases h
noncomputable def cFD : Itr
 | 95 => some (pureFn sp95)
 | 96 => some (pureFn sp96)
 | 116 => some (flatFn sp116)
 | 149 => some (pureFn sp149)
 | _ => none
theorem cFD_sound : Sound (dX cFD) := dX_sound (fun f g h => by
 unfold cFD at h
 split at h
 ·cases h; exact F95
 ·cases h; exact F96
 ·cases h; exact F116
 ·cases h; exact F149
 ·cases h)
theorem nat_row {H : Heap} {id n k : Nat} {o : List Nat} (hn : o.length = n) (hk : k < n) (hg : H.get id = some (.rw 1 (natsV o))) : indexAddrV Tryz.prog H 39 (.row id 0 n) (.int .i64 ↑k) = some (.eptr id 1 k 0) := by
 have b : Blt ⟨id + 1, H.m⟩ (.row id 0 (natsV o).length) 1 (natsV o) := .inr ⟨id, rfl, hg, Nat.lt_succ_self _, fun e => by have := congrArg List.length e; rw [natsV_len] at this; simp at this; rw [this] at hn; simp at hn; omega⟩
 obtain ⟨id', e1, e2⟩ := b.idx (P := Tryz.prog) (t := 39) (e := 3) (ag := false) Tryz.underlying39 ty_lay3 (k := k) (by rw [natsV_len]; omega)
 rw [natsV_len, hn] at e1
 have e3 : indexAddrV Tryz.prog H 39 (.row id 0 n) (.int .i64 ↑k) = indexAddrV Tryz.prog ⟨id + 1, H.m⟩ 39 (.row id 0 n) (.int .i64 ↑k) := rfl
 rw [e3, e1]
 simp only [indexAddrV, Tryz.underlying39, ty_lay3] at e1
 have hg2 : Heap.get ⟨id + 1, H.m⟩ id = some (.rw 1 (natsV o)) := hg
 rw [hg2] at e1
 split at e1 <;> simp_all
theorem nat_at {k : Nat} {o : List Nat} {v : Nat} (hp : o[k]? = some v) : (natsV o)[k]? = some (.int .i64 ↑v) := by simp [natsV, hp]
theorem all_not {n i : Nat} {f : Nat → Bool} (hi : i < n) (h : f i = false) : (List.range n).all f = false := by
 rw [Bool.eq_false_iff]
 intro e
 have := List.all_eq_true.1 e i (by simpa using hi)
 rw [h] at this
 cases this
theorem all_yes {n : Nat} {f : Nat → Bool} (h : ∀ j, j < n → f j = true) : (List.range n).all f = true := List.all_eq_true.2 fun j hj => h j (by simpa using hj)
def Took (L t n : Nat) (o : List Nat) (h : Heap) : Prop := ∃ id f e ps a b, h.get 2 = some (.var [.int .i64 ↑t]) ∧ h.get 3 = some (.var [.row id 0 n]) ∧ h.get 4 = some (.var [.bool true]) ∧ h.get id = some (.rw 1 (natsV o)) ∧ id ≠ L ∧ h.get L = some (.loop f e ps a b .done (some .ret))
theorem srch_len {n : Nat} {acc : List Nat → Bool} : ∀ (d : Nat) (p o : List Nat), srch n acc d p = some o → o.length = p.length + d := by
 intro d
 induction d with
 | zero =>
  intro p o h
  simp only [srch] at h
  split at h
  ·cases h; rfl
  ·cases h
 | succ d ih =>
  intro p o h
  simp only [srch] at h
  obtain ⟨i, hi, h1⟩ := List.exists_of_findSome?_eq_some h
  split at h1
  ·cases h1
  ·have := ih _ _ h1
   simp at this
   omega
theorem took_of {L t n : Nat} {o : List Nat} {h : Heap} {id : Nat} {f : FuncId} {e : Mp AV} {ps : List Tmp} {a b : Code} (h2 : h.get 2 = some (.var [.int .i64 ↑t])) (h3 : h.get 3 = some (.var [.row id 0 n])) (h4 : h.get 4 = some (.var [.bool true])) (hi : h.get id = some (.rw 1 (natsV o))) (hn : id ≠ L) (hL : h.get L = some (.loop f e ps a b .done (some .ret))) : Took L t n o h :=
 ⟨id, f, e, ps, a, b, h2, h3, h4, hi, hn, hL⟩
theorem W.rangeEnds {X : Ctx} {F : Fr} {Q : Out → Prop} {g : Operand} {params : Array Tmp} {assign body : Code} {fid : FuncId} {first capt : List AV} {R : COut → Prop} (hg : F.opv g = some (.func (.func fid) first capt))
  (hc : ClR X fid ((first ++ [.yield F.hp.next]) ++ capt) (F.hp.new (.loop F.f (F.e.map noBox) params.toList assign body .ready none)) R)
  (h : ∀ r, Cl X fid ((first ++ [.yield F.hp.next]) ++ capt) (F.hp.new (.loop F.f (F.e.map noBox) params.toList assign body .ready none)) r → R r → W X (.rangeFunc g params assign body) F Q) : W X (.rangeFunc g params assign body) F Q := by
 unfold ClR at hc
 obtain ⟨r, h1, h2⟩ := hc
 exact h r h1 h2
theorem acc_no {off : Int} {hs ps : List Pt} {t : Int} {o : List Nat} {i : Nat} {p q : Pt} {v : Nat} (hi : hs[i]? = some q) (ho : o[i]? = some v) (hp : ps[v]? = some p) (h : offB off (turnP t p) q = false) : accB off hs ps t o = false := by
 have hil : i < hs.length := by
  rcases Nat.lt_or_ge i hs.length with h' | h'
  ·exact h'
  ·rw [List.getElem?_eq_none h'] at hi; cases hi
 refine all_not hil ?_
 simp only [List.getD, hi, ho, hp, Option.getD_some]
 exact h
theorem off_at {off : Int} {hs ps : List Pt} {t : Int} {o : List Nat} {i : Nat} {p q : Pt} {v : Nat} (hi : hs[i]? = some q) (ho : o[i]? = some v) (hp : ps[v]? = some p) : offB off (turnP t (ps.getD (o.getD i 0) ⟨0, 0⟩)) (hs.getD i ⟨0, 0⟩) = offB off (turnP t p) q := by
 simp only [List.getD, hi, ho, hp, Option.getD_some]
theorem hext_back {h hq : Heap} {L : Nat} {b : Blk} (hn : hq.next = h.next) (hg : ∀ j, j ≠ L → hq.get j = h.get j) (hL : h.get L = some b) : HExt h (hq.put L b) := by
 refine ⟨?_, fun id hid => ?_⟩
 ·show h.next ≤ hq.next
  omega
 ·rw [Heap.get_put]
  split
  ·rename_i e; subst e; exact hL.symm
  ·rename_i e; exact hg id (fun e' => e e'.symm)
set_option maxHeartbeats 8000000 in
theorem F100 : IntrFn Tryz.prog 100 (pureFn sp100) := by
 refine pure_fn (X := dX cFD) cFD_sound p100 ?_
 intro args v h
 unfold sp100 at h
 split at h
 ·rename_i ca off la
  split at h
  ·rename_i hs ps hl hr
   split at h
   ·rename_i hlen
    have h := Option.some.inj h
    subst h
    simp only [Bool.and_eq_true, decide_eq_true_eq] at hlen
    obtain ⟨⟨hn, hn1⟩, hn2⟩ := hlen
    have o1 := sl_out hl
    have o2 := sl_out hr
    have ln1 := sl_len hl
    have ln2 := sl_len hr
    rw [hn] at ln1
    have t1 := (slV_is hl).1.tup
    have t2 := (slV_is hr).1.tup
    have c2 : la.cells = [la] := by rcases (slV_is hr).1 with ⟨rfl | rfl, _⟩ | rfl <;> rfl
    have HV := Lib.hid (show matchV (matchS off hs ps) = matchV (matchS off hs ps) from rfl)
    have HL := Lib.hid hl
    have HR := Lib.hid hr
    have HN := Lib.hid hn
    simp only [AV.cells] at c2
    simp only [isTuple] at t1 t2
    clear hl hr hn
    generalize hres : matchV (matchS off hs ps) = res
    have HRES := Lib.hid hres
    clear hres HV
    refine ClR.walk (c := _) rfl Tryz.func100 rfl (by kernel_rfl) rfl isRet_fail ?_
    simp only [entryEnv, Nat.reduceAdd, emptyHp]
    repeat' (first | refine goS ?_ | refine go2 (fun hh => ?_) (fun hh => ?_) | fail)
    refine W.loopN 8 (fun k F => ∃ e hp, F = Fr.mk 100 false e .nil hp [] none ∧ 5 ≤ hp.next ∧ hp.get 0 = some (.var [ca, .int .i64 off]) ∧ hp.get 1 = some (.var [la]) ∧ hp.get 2 = some (.var [.int .i64 0]) ∧ hp.get 3 = some (.var [.nilslice]) ∧ hp.get 4 = some (.var [.bool false]) ∧
     (∀ j : Nat, j < k → srch ps.length (accB off hs ps j) ps.length [] = none) ∧ e.get 2 = some (.ptr 0 0) ∧ e.get 3 = some (.ptr 1 0) ∧ e.get 4 = some (.ptr 2 0) ∧ e.get 5 = some (.ptr 3 0) ∧ e.get 6 = some (.ptr 4 0) ∧ e.get 12 = some (.int .i64 ↑k) ∧ k ≤ 8) ?_ ?_
    ·refine ⟨_, _, rfl, Nat.le_refl _, rfl, rfl, rfl, rfl, rfl, fun j hj => absurd hj (by omega), ?_, ?_, ?_, ?_, ?_, ?_, ?_⟩ <;> first | exact Z2 | simp [go_sem, *]
    rintro k F ⟨e, ⟨pn, pm⟩, rfl, hpn, g0, g1, g2, g3, g4, hno, h2, h3, h4, h5, h6, h12, hk⟩
    have HNO := Lib.hid hno
    clear hno
    simp only at hpn
    by_cases hlt : k < 8
    ·have hin : inB (k : Int) 0 7 = true := by simp only [inB, Bool.and_eq_true, decide_eq_true_eq]; omega
     have hd : decide ((k : Int) < 8) = true := by simp; omega
     have hw := wrap_succ (m := 8) hlt (by unfold maxL; omega)
     simp only [hp_get] at g0 g1 g2 g3 g4
     have b0 : (pn == 0) = false := beq_eq_false_iff_ne.2 (by omega)
     have d0 : (pn + 1 == 0) = false := beq_eq_false_iff_ne.2 (by omega)
     have b1 : (pn == 1) = false := beq_eq_false_iff_ne.2 (by omega)
     have d1 : (pn + 1 == 1) = false := beq_eq_false_iff_ne.2 (by omega)
     have b2 : (pn == 2) = false := beq_eq_false_iff_ne.2 (by omega)
     have d2 : (pn + 1 == 2) = false := beq_eq_false_iff_ne.2 (by omega)
     have b3 : (pn == 3) = false := beq_eq_false_iff_ne.2 (by omega)
     have d3 : (pn + 1 == 3) = false := beq_eq_false_iff_ne.2 (by omega)
     have b4 : (pn == 4) = false := beq_eq_false_iff_ne.2 (by omega)
     have d4 : (pn + 1 == 4) = false := beq_eq_false_iff_ne.2 (by omega)
     have bd : (pn + 1 == pn) = false := beq_eq_false_iff_ne.2 (by omega)
     repeat' (first | (refine W.label ?_; simp only [tN, bN, eN, true_and]) | refine go1 ?_ | (apply U6; exact Z1; exact Z1; (focus (simp only [List.nil_append, List.append_nil]; first | exact C121 cFD rfl _ _ _)); simp only [pM, pN, rR, rP]) | refine go2 (fun hh => ?_) (fun hh => ?_) | fail)
     apply W.rangeEnds (R := seaU _ (Took (pn + 1 + 1) k ps.length) (srch ps.length (accB off hs ps k) ps.length []))
     ·exact Z1
     ·refine C167 cFD rfl rfl rfl rfl ps.length _ (pn + 1) hn2 _ (Took (pn + 1 + 1) k ps.length) (accB off hs ps k) ?_ ?_ ?_
      ·rw [Heap.get_new, if_neg (by simp), hget_set, if_pos rfl]
      ·simp only [Heap.new]; omega
      ·intro o a h1 hx ho hltn hB
       have hL := hx.2 (pn + 1 + 1) (by simp only [Heap.new]; omega)
       rw [Heap.get_new, if_pos rfl] at hL
       have G : ∀ id, id < pn → h1.get id = Heap.get ⟨pn, pm⟩ id := fun id hid => by
        rw [hx.2 id (by simp only [Heap.new]; omega), Heap.get_new, if_neg (by simp only; omega), hget_set, if_neg (by omega), hget_set, if_neg (by omega), hget_set, if_neg (by omega)]
        rfl
       have G7 : h1.get pn = some (.var [.int .i64 ↑k]) := by
        rw [hx.2 pn (by simp only [Heap.new]; omega), Heap.get_new, if_neg (by simp only; omega), hget_set, if_neg (by omega), hget_set, if_pos rfl]
       obtain ⟨er, hE, hL⟩ : ∃ er, er = _ ∧ h1.get (pn + 1 + 1) = some (.loop 100 er _ _ _ .ready none) := ⟨_, rfl, hL⟩
       have r2 : er.get 2 = some (.ptr 0 0) := by rw [hE, Mp.get_map]; simp [go_sem, *, noBox]
       have r3 : er.get 3 = some (.ptr 1 0) := by rw [hE, Mp.get_map]; simp [go_sem, *, noBox]
       have r4 : er.get 4 = some (.ptr 2 0) := by rw [hE, Mp.get_map]; simp [go_sem, *, noBox]
       have r5 : er.get 5 = some (.ptr 3 0) := by rw [hE, Mp.get_map]; simp [go_sem, *, noBox]
       have r6 : er.get 6 = some (.ptr 4 0) := by rw [hE, Mp.get_map]; simp [go_sem, *, noBox]
       have r7 : er.get 7 = some (.ptr pn 0) := by rw [hE, Mp.get_map]; simp [go_sem, *, noBox]
       clear hE
       obtain ⟨id, rfl, hrow, hid⟩ : ∃ id, a = .row id 0 ps.length ∧ h1.get id = some (.rw 1 (natsV o)) ∧ id < h1.next := by
        rcases hB with ⟨_, e⟩ | ⟨id, q1, q2, q3, _⟩
        ·have := congrArg List.length e
         rw [natsV_len] at this
         simp at this
         rw [this] at ho
         simp at ho
         omega
        ·exact ⟨id, by rw [natsV_len, ho] at q1; exact q1, q2, q3⟩
       have hidL : id ≠ pn + 1 + 1 := fun e => by rw [e, hL] at hrow; cases hrow
       have v0 := (G 0 (by omega)).trans g0
       have v1 := (G 1 (by omega)).trans g1
       have v2 := (G 2 (by omega)).trans g2
       have v3 := (G 3 (by omega)).trans g3
       have v4 := (G 4 (by omega)).trans g4
       have hid2 : id ≠ 2 := fun e => by rw [e, v2] at hrow; cases hrow
       have hid3 : id ≠ 3 := fun e => by rw [e, v3] at hrow; cases hrow
       have hid4 : id ≠ 4 := fun e => by rw [e, v4] at hrow; cases hrow
       have HHL := Lib.hid hL
       have HHX := Lib.hid hx
       refine round_ok' hL rfl ?_
       clear hL hx G HNO h2 h3 h4 h5 h6 h12
       repeat' (first | refine goS ?_ | refine go2 (fun hh => ?_) (fun hh => ?_) | fail)
       rintro ⟨qn, qm⟩ hqn hqg hqL
       have q0 := (hqg 0 (by omega)).trans v0
       have q1 := (hqg 1 (by omega)).trans v1
       have q2 := (hqg 2 (by omega)).trans v2
       have q3 := (hqg 3 (by omega)).trans v3
       have q4 := (hqg 4 (by omega)).trans v4
       have q7 := (hqg pn (by omega)).trans G7
       have qi := (hqg id hidL).trans hrow
       have HQN := Lib.hid hqn
       have HQG := Lib.hid hqg
       have HQL := Lib.hid hqL
       simp only [hp_get] at q0 q1 q2 q3 q4 q7 qi
       clear hqn hqg hqL v0 v1 v2 v3 v4 G7 hrow
       repeat' (first | refine goS ?_ | refine go2 (fun hh => ?_) (fun hh => ?_) | fail)
       refine W.loopN ps.length (fun i F => ∃ e lm, F = Fr.mk 100 true e lm ⟨qn, qm⟩ [] none ∧ (∀ j, j < i → offB off (turnP (k : Nat) (ps.getD (o.getD j 0) ⟨0, 0⟩)) (hs.getD j ⟨0, 0⟩) = true) ∧ e.get 2 = some (.ptr 0 0) ∧ e.get 3 = some (.ptr 1 0) ∧ e.get 4 = some (.ptr 2 0) ∧ e.get 5 = some (.ptr 3 0) ∧ e.get 6 = some (.ptr 4 0) ∧ e.get 7 = some (.ptr pn 0) ∧
        e.get 8 = some (.row id 0 ps.length) ∧ e.get 20 = some ca ∧ e.get 21 = some (.int .i64 ↑ps.length) ∧ e.get 22 = some (.int .i64 ↑i) ∧ i ≤ ps.length) ?_ ?_
       ·refine ⟨_, _, rfl, fun j hj => absurd hj (by omega), ?_, ?_, ?_, ?_, ?_, ?_, ?_, ?_, ?_, ?_, ?_⟩ <;> first | exact Z2 | simp [go_sem, *]
       clear r2 r3 r4 r5 r6 r7
       rintro i F ⟨e', lm, rfl, hall, h2, h3, h4, h5, h6, h7, h8, h20, h21, h22, hi⟩
       have HALL := Lib.hid hall
       clear hall
       by_cases hil : i < ps.length
       ·obtain ⟨v, hv⟩ := get_some (show i < o.length by omega)
        have hvn : v < ps.length := hltn v (List.mem_of_getElem? hv)
        obtain ⟨p, hp⟩ := get_some hvn
        obtain ⟨q, hq⟩ := get_some (show i < hs.length by rw [HN.out]; exact hil)
        have hio := nat_row (H := ⟨qn, qm⟩) ho hil qi
        have hav := nat_at hv
        have hix := pts_idx HL.out hq
        have hip := pts_idx HR.out hp
        obtain ⟨t, m, hof, HT⟩ := of_turned hin p
        have k96 : ∀ h, Cl (dX cFD) 96 [.int .i64 ↑k] h (.ret (.iface t (.int .i64 m)) h none) := fun h => by
         have := K96 (X := dX cFD) rfl k h
         rw [hof] at this
         exact this
        have hno := fun hh => acc_no (off := off) (t := k) hq hv hp hh
        have hat := off_at (off := off) (t := k) hq hv hp
        generalize turnP (k : Nat) p = pt at *
        have w1 : IntKind.i64.wrap (pt.x - q.x) = w64 (pt.x - q.x) := rfl
        have w2 : IntKind.i64.wrap (pt.y - q.y) = w64 (pt.y - q.y) := rfl
        have hdl : decide ((i : Int) < (ps.length : Int)) = true := by simpa using hil
        have hw := wrap_succ hil (sl_max HR.out)
        have k149 : ∀ h, Cl (dX cFD) 149 [.agg [.int .i64 (w64 (pt.x - q.x)), .int .i64 (w64 (pt.y - q.y))], .int .i64 off] h (.ret (.bool (offB off pt q)) h none) := fun h => K149 rfl ⟨_, _⟩ off h
        generalize w64 (pt.x - q.x) = z1 at *
        generalize w64 (pt.y - q.y) = z2 at *
        have HAT := Lib.hid hat
        have HNO := Lib.hid hno
        have HHO := Lib.hid ho
        clear hv hp hq hof hat hno ho hltn
        cases hoff : offB off pt q with
        | false =>
         rw [hoff] at k149
         have HOFF := Lib.hid hoff
         clear hoff
         repeat' (first | (apply Z7 (o := ⟨some 11, .alloc 38, 0, _, _, none⟩); exact rfl; exact rfl; exact Z1; simp only [pM, pN]) | (apply W.drawQ (id := 9) (l1 := [10, 0, 1, 2, 3, 4, 5, 6, 7, 8, 9]) (l2 := [11]); kernel_rfl; kernel_rfl; kernel_rfl; exact Z4) | refine go1 ?_ | (apply U6; exact Z1; exact Z1; (focus (simp only [List.nil_append, List.append_nil]; first | exact K95 rfl _ _ _ _ HT _ | exact k96 _ | exact k149 _)); simp only [pM, pN, rR, rP]) | refine go2 (fun hh => ?_) (fun hh => ?_) | fail)
         rw [roundQ_norm]
         simp only [endV, HQL.out]
         refine seaR_no ?_ (hext_back HQN.out HQG.out HHL.out)
         rw [if_neg]
         rw [HNO.out HOFF.out]
         simp
        | true =>
         rw [hoff] at k149
         have HOFF := Lib.hid hoff
         clear hoff
         repeat' (first | (apply Z7 (o := ⟨some 11, .alloc 38, 0, _, _, none⟩); exact rfl; exact rfl; exact Z1; simp only [pM, pN]) | (apply W.drawQ (id := 9) (l1 := [10, 0, 1, 2, 3, 4, 5, 6, 7, 8, 9]) (l2 := [11]); kernel_rfl; kernel_rfl; kernel_rfl; exact Z4) | refine go1 ?_ | (apply U6; exact Z1; exact Z1; (focus (simp only [List.nil_append, List.append_nil]; first | exact K95 rfl _ _ _ _ HT _ | exact k96 _ | exact k149 _)); simp only [pM, pN, rR, rP]) | refine go2 (fun hh => ?_) (fun hh => ?_) | fail)
         refine ⟨hil, _, _, rfl, fun j hj => ?_, ?_, ?_, ?_, ?_, ?_, ?_, ?_, ?_, ?_, ?_, by omega⟩
         ·rcases Nat.lt_or_ge j i with q | q
          ·exact HALL.out j q
          ·obtain rfl : j = i := by omega
           rw [HAT.out]; exact HOFF.out
         all_goals exact Z2
       ·have hdl : decide ((i : Int) < (ps.length : Int)) = false := by simpa using hil
        have hii : i = ps.length := by omega
        have hacc : accB off hs ps k o = true := by
         refine all_yes fun j hj => HALL.out j ?_
         rw [HN.out] at hj
         omega
        have HA := Lib.hid hacc
        have HHO := Lib.hid ho
        subst hii
        clear hacc ho hltn
        repeat' (first | refine goS ?_ | refine go2 (fun hh => ?_) (fun hh => ?_) | fail)
        rw [roundQ_ret]
        have eL := HQL.out
        simp only [hp_get] at eL
        have x2 : ((qm.set 2 (.var [.int .i64 ↑k])).set 3 (.var [.row id 0 ps.length])).set 4 (.var [.bool true]) = ((qm.set 2 (.var [.int .i64 ↑k])).set 3 (.var [.row id 0 ps.length])).set 4 (.var [.bool true]) := rfl
        clear x2
        simp only [endV, hp_get, Mp.get_set, if_neg (show ¬ 4 = pn + 1 + 1 by omega), if_neg (show ¬ 3 = pn + 1 + 1 by omega), if_neg (show ¬ 2 = pn + 1 + 1 by omega), eL, hp_put]
        refine seaR_yes (if_pos HA.out) ?_
        apply took_of (id := id)
        ·rw [hp_get, Mp.get_set, if_neg (by omega), Mp.get_set, if_neg (by omega), Mp.get_set, if_neg (by omega), Mp.get_set, if_pos rfl]
        ·rw [hp_get, Mp.get_set, if_neg (by omega), Mp.get_set, if_neg (by omega), Mp.get_set, if_pos rfl]
        ·rw [hp_get, Mp.get_set, if_neg (by omega), Mp.get_set, if_pos rfl]
        ·rw [hp_get, Mp.get_set, if_neg hidL.symm, Mp.get_set, if_neg hid4.symm, Mp.get_set, if_neg hid3.symm, Mp.get_set, if_neg hid2.symm, qi]
        ·exact hidL
        ·rw [hp_get, Mp.get_set, if_pos rfl]
     ·intro r hcl hR
      obtain ⟨h', ⟨ex, rfl, kx⟩ | ⟨o, ex, rfl, kx⟩⟩ := hR
      ·have hL := kx.2 (pn + 1 + 1) (by simp only [Heap.new]; omega)
       rw [Heap.get_new, if_pos rfl] at hL
       have hnx : pn + 1 + 1 + 1 ≤ h'.next := kx.1
       have G : ∀ id, id < pn → h'.get id = Heap.get ⟨pn, pm⟩ id := fun id hid => by
        rw [kx.2 id (by simp only [Heap.new]; omega), Heap.get_new, if_neg (by simp only; omega), hget_set, if_neg (by omega), hget_set, if_neg (by omega), hget_set, if_neg (by omega)]
        rfl
       refine W.rangeNorm rfl ?_ hcl hL (fun e => by cases e) ?_
       ·first | exact Z2 | exact Z1
       clear hcl hL
       generalize hput : Heap.put h' _ _ = hz
       have GZ : ∀ id, id < pn → hz.get id = Heap.get ⟨pn, pm⟩ id := fun id hid => by
        rw [← hput, Heap.get_put, if_neg (by simp only; omega)]
        exact G id hid
       have hzn : 5 ≤ hz.next := by
        rw [← hput]
        show 5 ≤ h'.next
        omega
       have HGZ := Lib.hid GZ
       have EX := Lib.hid ex
       clear hput G kx ex GZ
       simp only [bN, tN]
       repeat' (first | (refine W.label ?_; simp only [tN, bN, eN, true_and]) | refine go1 ?_ | refine go2 (fun hh => ?_) (fun hh => ?_) | fail)
       refine ⟨hlt, _, hz, rfl, hzn, (HGZ.out 0 (by omega)).trans g0, (HGZ.out 1 (by omega)).trans g1, (HGZ.out 2 (by omega)).trans g2, (HGZ.out 3 (by omega)).trans g3, (HGZ.out 4 (by omega)).trans g4, fun j hj => ?_, ?_, ?_, ?_, ?_, ?_, ?_, by omega⟩
       ·rcases Nat.lt_or_ge j k with q | q
        ·exact HNO.out j q
        ·obtain rfl : j = k := by omega
         exact EX.out
       all_goals exact Z2
      ·obtain ⟨id, f, e1, ps1, a1, b1, k2, k3, k4, ki, kn, kL⟩ := kx
       refine W.rangeRet rfl ?_ hcl kL (fun e => by cases e) ?_
       ·first | exact Z2 | exact Z1
       clear hcl
       generalize hput : Heap.put h' _ _ = hz
       have GZ : ∀ id, id ≠ pn + 1 + 1 → hz.get id = h'.get id := fun id hid => by
        rw [← hput, Heap.get_put, if_neg (fun e => hid e.symm)]
       have k2 := (GZ 2 (by omega)).trans k2
       have k3 := (GZ 3 (by omega)).trans k3
       have k4 := (GZ 4 (by omega)).trans k4
       have ki := (GZ id kn).trans ki
       have EX := Lib.hid ex
       have hon : o.length = ps.length := by
        have := srch_len _ _ _ ex
        simpa using this
       have hs2 : matchS off hs ps = some (k, o) := find_some (fun j hj => by rw [HNO.out j hj]; rfl) (by rw [ex]; rfl) hlt
       have hfz : frz2 hz (.row id 0 ps.length) = some (slN (natsV o), hz.del id) := by
        have e1 : ps.length ≤ (natsV o).length := by rw [natsV_len]; omega
        have e2 : (natsV o).take ps.length = natsV o := List.take_of_length_le (by rw [natsV_len]; omega)
        have e3 : slN (natsV o) = .vslice (natsV o) := by
         cases o with
         | nil => simp at hon; omega
         | cons x o => rfl
        simp only [frz2, frz1, ki, Nat.zero_add, e1, if_true, List.drop_zero, e2, e3]
       have HS2 := Lib.hid hs2
       clear hput GZ kL ex hs2 ki hon
       simp only [tR, bR, eR, true_and]
       (simp only [resV_def (X := dX cFD) Tryz.func100, Tryz.results100]; first | exact J5 | refine J6 ?_)
       rw [← HRES.out, HS2.out]
       rfl
    ·have hd : decide ((k : Int) < 8) = false := by simp; omega
     have hk8 : k = 8 := by omega
     subst hk8
     clear hlt
     simp only [hp_get] at g0 g1 g2 g3 g4
     repeat' (first | refine goS ?_ | refine go2 (fun hh => ?_) (fun hh => ?_) | fail)
     all_goals (simp only [resV_def (X := dX cFD) Tryz.func100, Tryz.results100]; first | exact J5 | refine J6 ?_)
     have hs2 : matchS off hs ps = none := find_none fun j hj => by rw [HNO.out j hj]; rfl
     rw [← HRES.out, hs2]
     rfl
   ·cases h
  ·cases h
 ·cases h
end Go.AM
namespace Go.AM
open Go Go.Proofs
variable [Keep]
attribute [local irreducible] W WO WO1 WD WQ WT thenQ blockQ endR isRet retK Cl ClR
theorem allB_P (l : List Pt) (least far : Int) : allB l least far = pointsB l least 4 far := by
 unfold allB pointsB
 rw [Bool.and_comm]
 congr 1
 rw [List.not_any_eq_all_not]
 congr 1
 funext p
 simp
def sp31 : List AV → Option AV
 | [.agg [a, .int .i64 off]] => (slV ptC a).map fun l => .bool (measB l off)
 | _ => none
theorem p31 : ∀ args v, sp31 args = some v → v.pur = true := by
 intro args v h
 unfold sp31 at h
 split at h
 ·simp only [Option.map_eq_some_iff] at h; obtain ⟨l, _, rfl⟩ := h; rfl
 ·cases h
noncomputable def cGD : Itr
 | 28 => some (flatFn sp28)
 | 97 => some (pureFn sp97)
 | _ => none
theorem cGD_sound : Sound (dX cGD) := dX_sound (fun f g h => by
 unfold cGD at h
 split at h
 ·cases h; exact F28
 ·cases h; exact F97
 ·cases h)
set_option maxHeartbeats 2000000 in
theorem F31 : IntrFn Tryz.prog 31 (pureFn sp31) := by
 refine pure_fn (X := dX cGD) cGD_sound p31 ?_
 intro args v h
 unfold sp31 at h
 split at h
 ·rename_i a off
  simp only [Option.map_eq_some_iff] at h
  obtain ⟨l, ha, rfl⟩ := h
  have hlen := sl_len ha
  have hout := sl_out ha
  have hmax := sl_max ha
  have HA := Lib.hid ha
  have k97 : ∀ h, Cl (dX cGD) 97 [.int .i64 off, .int .i64 0, .int .i64 6] h (.ret (.bool (inB off 0 6)) h none) := fun h => K97 rfl off 0 6 h
  have k28 : ∀ h, Cl (dX cGD) 28 [a, .int .i64 2, .int .i64 4, .int .i64 20] h (.ret (.bool (allB l 2 20)) h none) := fun h => by
   rw [allB_P]
   exact K28 rfl a l 2 4 20 ha h
  have HM := Lib.hid (show measB l off = (noTwin l && allB l 2 20 && inB off 0 6) from rfl)
  generalize measB l off = mb at *
  clear ha
  refine ClR.walk (c := _) rfl Tryz.func31 rfl (by kernel_rfl) rfl isRet_fail ?_
  simp only [entryEnv, Nat.reduceAdd, emptyHp]
  repeat' (first | refine goS ?_ | refine go2 (fun hh => ?_) (fun hh => ?_) | fail)
  refine W.loopN l.length (fun i F => ∃ e lm, F = Fr.mk 31 false e lm ⟨0, .nil⟩ [] none ∧ (∀ j, j < i → ((List.range j).all fun k => !ptEq (l.getD j ⟨0, 0⟩) (l.getD k ⟨0, 0⟩)) = true) ∧ lm.get 1 = some (0, [a, .int .i64 off]) ∧ e.get 1 = some (.lptr 1 0 0) ∧ e.get 3 = some (.int .i64 ↑i) ∧ i ≤ l.length) ?_ ?_
  ·refine ⟨_, _, rfl, fun j hj => absurd hj (by omega), ?_, ?_, ?_, ?_⟩ <;> first | exact Z2 | simp [go_sem, *]
  rintro i F ⟨e, lm, rfl, hall, m1, h1, h3, hi⟩
  have HALL := Lib.hid hall
  clear hall
  by_cases hlt : i < l.length
  ·have hd : decide ((i : Int) < (l.length : Int)) = true := by simpa using hlt
   have hw := wrap_succ hlt hmax
   obtain ⟨p, hp⟩ := get_some hlt
   have hgp : l.getD i ⟨0, 0⟩ = p := by simp [List.getD, hp]
   have hix := pts_idx HA.out hp
   have HP := Lib.hid hgp
   clear hgp hp
   repeat' (first | refine goS ?_ | refine go2 (fun hh => ?_) (fun hh => ?_) | fail)
   refine W.loopN i (fun k F => ∃ e lm, F = Fr.mk 31 false e lm ⟨0, .nil⟩ [] none ∧ (∀ j, j < k → (!ptEq p (l.getD j ⟨0, 0⟩)) = true) ∧ lm.get 1 = some (0, [a, .int .i64 off]) ∧ e.get 1 = some (.lptr 1 0 0) ∧ e.get 3 = some (.int .i64 ↑i) ∧ e.get 4 = some (.int .i64 ↑k) ∧ k ≤ i) ?_ ?_
   ·refine ⟨_, _, rfl, fun j hj => absurd hj (by omega), ?_, ?_, ?_, ?_, ?_⟩ <;> first | exact Z2 | simp [go_sem, *]
   clear m1 h1 h3 hd
   rintro k F ⟨e, lm, rfl, hal2, m1, h1, h3, h4, hk⟩
   have HAL2 := Lib.hid hal2
   clear hal2
   by_cases hki : k < i
   ·have hd : decide ((k : Int) < (i : Int)) = true := by simpa using hki
    have hw2 := wrap_succ (m := i) hki (by omega)
    obtain ⟨q, hq⟩ := get_some (show k < l.length by omega)
    have hiy := pts_idx HA.out hq
    have hgq : l.getD k ⟨0, 0⟩ = q := by simp [List.getD, hq]
    have he := eqA38 p.x p.y q.x q.y
    have hpe : (p.x == q.x && p.y == q.y) = ptEq p q := rfl
    rw [hpe] at he
    have HQ := Lib.hid hgq
    clear hpe hgq hq
    cases hpq : ptEq p q with
    | true =>
     rw [hpq] at he
     have HPQ := Lib.hid hpq
     clear hpq
     repeat' (first | (apply W.drawQ (id := 7) (l1 := [0, 1, 2, 3, 4, 5, 6, 7, 8, 9, 10]) (l2 := []); kernel_rfl; kernel_rfl; kernel_rfl; exact Z4) | refine go1 ?_ | refine go2 (fun hh => ?_) (fun hh => ?_) | fail)
     all_goals (simp only [resV_def (X := dX cGD) Tryz.func31, Tryz.results31]; first | exact J5 | refine J6 ?_)
     rw [HM.out, twin_no hlt (by
      rw [HP.out]
      exact all_not hki (by rw [HQ.out, HPQ.out]; rfl))]
     rfl
    | false =>
     rw [hpq] at he
     have HPQ := Lib.hid hpq
     clear hpq
     repeat' (first | (apply W.drawQ (id := 7) (l1 := [0, 1, 2, 3, 4, 5, 6, 7, 8, 9, 10]) (l2 := []); kernel_rfl; kernel_rfl; kernel_rfl; exact Z4) | refine go1 ?_ | refine go2 (fun hh => ?_) (fun hh => ?_) | fail)
     refine ⟨hki, _, _, rfl, fun j hj => ?_, ?_, ?_, ?_, ?_, by omega⟩
     ·rcases Nat.lt_or_ge j k with q | q
      ·exact HAL2.out j q
      ·obtain rfl : j = k := by omega
       rw [HQ.out, HPQ.out]; rfl
     all_goals exact Z2
   ·have hd : decide ((k : Int) < (i : Int)) = false := by simpa using hki
    have HIK := Lib.hid (show i ≤ k by omega)
    clear hki hk
    repeat' (first | refine goS ?_ | refine go2 (fun hh => ?_) (fun hh => ?_) | fail)
    refine ⟨hlt, _, _, rfl, fun j hj => ?_, ?_, ?_, ?_, by omega⟩
    ·rcases Nat.lt_or_ge j i with q | q
     ·exact HALL.out j q
     ·obtain rfl : j = i := by omega
      rw [HP.out]
      exact all_yes fun m hm => HAL2.out m (by have := HIK.out; omega)
    all_goals exact Z2
  ·have hd : decide ((i : Int) < (l.length : Int)) = false := by simpa using hlt
   have hil : i = l.length := by omega
   have HT := Lib.hid (twin_yes (l := l) (fun j hj => HALL.out j (by omega)))
   clear hil
   generalize allB l 2 20 = b1 at *
   generalize inB off 0 6 = b2 at *
   cases b1 <;> cases b2
   all_goals (
    repeat' (first | refine goS ?_ | (apply U6; exact Z1; exact Z1; (focus (simp only [List.nil_append, List.append_nil]; first | exact k28 _ | exact k97 _)); simp only [pM, pN, rR, rP]) | refine go2 (fun hh => ?_) (fun hh => ?_) | fail)
    all_goals (simp only [resV_def (X := dX cGD) Tryz.func31, Tryz.results31]; first | exact J5 | refine J6 ?_)
    all_goals (rw [HM.out, HT.out]; rfl))
 ·cases h
def matchR : Option (Nat × List Nat) → AV
 | some (t, o) => .tuple [.int .i64 (t : Int), slN (natsV o), .int .i64 0]
 | none => .tuple [.int .i64 0, .nilslice, .int .i64 5]
def matchOk (hs ps : List Pt) (off : Int) : Bool := measB hs off && decide (hs.length = ps.length) && allB ps 2 80
def matchF (hs ps : List Pt) (off : Int) : AV := if matchOk hs ps off then matchR (matchS off hs ps) else .tuple [.int .i64 0, .nilslice, .int .i64 2]
def sp34 : List AV → Option AV
 | [.agg [ca, .int .i64 off], la] => match slV ptC ca, slV ptC la with
  | some hs, some ps => some (matchF hs ps off)
  | _, _ => none
 | _ => none
theorem slN_nats (o : List Nat) : outV (some (slN (natsV o))) = some (slN (natsV o)) ∧ isTuple (slN (natsV o)) = false ∧ ∀ hp : Heap, frz2 hp (slN (natsV o)) = some (slN (natsV o), hp) := ⟨(slN_is _).out, (slN_is _).tup, (slN_is _).frz2⟩
end Go.AM
namespace Go.AM
open Go
def lexB : List Nat → List Nat → Bool
 | [], b => !b.isEmpty
 | a :: l, b :: r => if a = b then lexB l r else decide (a < b)
 | _ :: _, [] => false
theorem lexB_pre : ∀ (p x y : List Nat), lexB (p ++ x) (p ++ y) = lexB x y := by
 intro p
 induction p with
 | nil => intro x y; rfl
 | cons a p ih => intro x y; simp only [List.cons_append, lexB, if_true, ih]
structure IsOrd (n : Nat) (o : List Nat) : Prop where
 len : o.length = n
 lt : ∀ k ∈ o, k < n
 nd : o.Nodup
theorem find_spec {α : Type} {f : Nat → Option α} {o : α} : ∀ {n : Nat}, (List.range n).findSome? f = some o → ∃ i, i < n ∧ f i = some o ∧ ∀ j, j < i → f j = none := by
 intro n
 induction n with
 | zero => intro h; simp at h
 | succ n ih =>
  intro h
  rw [List.range_succ, List.findSome?_append] at h
  cases h1 : (List.range n).findSome? f with
  | some x =>
   rw [h1] at h
   simp only [Option.some_or, Option.some.injEq] at h
   subst h
   obtain ⟨i, q1, q2, q3⟩ := ih h1
   exact ⟨i, by omega, q2, q3⟩
  | none =>
   rw [h1] at h
   refine ⟨n, by omega, by simpa using h, fun j hj => ?_⟩
   exact List.findSome?_eq_none_iff.1 h1 j (by simpa using hj)
section
variable {n : Nat} {acc : List Nat → Bool}
theorem srch_none : ∀ (d : Nat) (p : List Nat), srch n acc d p = none → p.length + d = n → ∀ s, IsOrd n (p ++ s) → acc (p ++ s) = false := by
 intro d
 induction d with
 | zero =>
  intro p h hl s hs
  have : s = [] := by
   have := hs.len
   simp at this
   exact List.eq_nil_of_length_eq_zero (by omega)
  subst this
  simp only [srch] at h
  rw [List.append_nil]
  cases ha : acc p with
  | false => rfl
  | true => rw [ha] at h; simp at h
 | succ d ih =>
  intro p h hl s hs
  cases s with
  | nil => have := hs.len; simp at this; omega
  | cons i s =>
   simp only [srch] at h
   have hi : i < n := hs.lt i (by simp)
   have h1 := List.findSome?_eq_none_iff.1 h i (by simpa using hi)
   have hc : ¬ p.contains i = true := by
    intro e
    have hm : i ∈ p := by simpa using e
    have := hs.nd
    rw [List.nodup_append] at this
    exact this.2.2 i hm i (by simp) rfl
   rw [if_neg hc] at h1
   have := ih (p ++ [i]) h1 (by simp; omega) s (by simpa using hs)
   simpa using this
theorem srch_some : ∀ (d : Nat) (p o : List Nat), srch n acc d p = some o → p.Nodup → (∀ k ∈ p, k < n) → p.length + d = n → IsOrd n o ∧ acc o = true ∧ ∃ s, o = p ++ s := by
 intro d
 induction d with
 | zero =>
  intro p o h hn hlt hl
  simp only [srch] at h
  split at h
  ·rename_i ha
   cases h
   exact ⟨⟨by omega, hlt, hn⟩, ha, [], by simp⟩
  ·cases h
 | succ d ih =>
  intro p o h hn hlt hl
  simp only [srch] at h
  obtain ⟨i, hi, h1, _⟩ := find_spec h
  split at h1
  ·cases h1
  ·rename_i hc
   have hm : i ∉ p := by simpa using hc
   obtain ⟨q1, q2, s, q3⟩ := ih (p ++ [i]) o h1 (by
    rw [List.nodup_append]
    exact ⟨hn, by simp, fun a hq b hb e => by simp at hb; subst hb; subst e; exact hm hq⟩) (fun k hk => by
    rcases List.mem_append.1 hk with q | q
    ·exact hlt k q
    ·simp at q; omega) (by simp; omega)
   exact ⟨q1, q2, i :: s, by simpa using q3⟩
theorem srch_first : ∀ (d : Nat) (p o : List Nat), srch n acc d p = some o → p.Nodup → (∀ k ∈ p, k < n) → p.length + d = n → ∀ s, IsOrd n (p ++ s) → acc (p ++ s) = true → lexB (p ++ s) o = false := by
 intro d
 induction d with
 | zero =>
  intro p o h hn hlt hl s hs ha
  have : s = [] := by
   have := hs.len
   simp at this
   exact List.eq_nil_of_length_eq_zero (by omega)
  subst this
  simp only [srch] at h
  rw [List.append_nil] at ha ⊢
  rw [if_pos ha] at h
  cases h
  have := lexB_pre p [] []
  simp only [List.append_nil] at this
  rw [this]
  rfl
 | succ d ih =>
  intro p o h hn hlt hl s hs ha
  cases s with
  | nil => have := hs.len; simp at this; omega
  | cons i s =>
   simp only [srch] at h
   obtain ⟨k, hk, h1, h2⟩ := find_spec h
   have hi : i < n := hs.lt i (by simp)
   have hc : ¬ p.contains i = true := by
    intro e
    have hm : i ∈ p := by simpa using e
    have := hs.nd
    rw [List.nodup_append] at this
    exact this.2.2 i hm i (by simp) rfl
   have hcat : p ++ i :: s = (p ++ [i]) ++ s := by simp
   rcases Nat.lt_trichotomy i k with q | q | q
   ·have h3 := h2 i q
    rw [if_neg hc] at h3
    have := srch_none d (p ++ [i]) h3 (by simp; omega) s (by rw [← hcat]; exact hs)
    rw [← hcat, ha] at this
    cases this
   ·subst q
    rw [if_neg hc] at h1
    have hm : i ∉ p := by simpa using hc
    have := ih (p ++ [i]) o h1 (by
     rw [List.nodup_append]
     exact ⟨hn, by simp, fun a hq b hb e => by simp at hb; subst hb; subst e; exact hm hq⟩) (fun k hk => by
     rcases List.mem_append.1 hk with q | q
     ·exact hlt k q
     ·simp at q; omega) (by simp; omega) s (by rw [← hcat]; exact hs) (by rw [← hcat]; exact ha)
    rw [hcat]
    exact this
   ·split at h1
    ·cases h1
    ·rename_i hck
     have hm : k ∉ p := by simpa using hck
     obtain ⟨_, _, t, ht⟩ := srch_some d (p ++ [k]) o h1 (by
      rw [List.nodup_append]
      exact ⟨hn, by simp, fun a hq b hb e => by simp at hb; subst hb; subst e; exact hm hq⟩) (fun j hj => by
      rcases List.mem_append.1 hj with q | q
      ·exact hlt j q
      ·simp at q; omega) (by simp; omega)
     rw [ht, List.append_assoc, lexB_pre]
     simp only [List.cons_append, List.nil_append, lexB]
     rw [if_neg (by omega)]
     simp
     omega
end
theorem match_none {off : Int} {hs ps : List Pt} (h : matchS off hs ps = none) {t : Nat} (ht : t < 8) {o : List Nat} (ho : IsOrd ps.length o) : accB off hs ps t o = false := by
 have h1 := List.findSome?_eq_none_iff.1 h t (by simpa using ht)
 have h2 : srch ps.length (accB off hs ps t) ps.length [] = none := by simpa using h1
 have := srch_none ps.length [] h2 (by simp) o (by simpa using ho)
 simpa using this
theorem match_some {off : Int} {hs ps : List Pt} {t : Nat} {o : List Nat} (h : matchS off hs ps = some (t, o)) : t < 8 ∧ IsOrd ps.length o ∧ accB off hs ps t o = true ∧
  ∀ (u : Nat) (r : List Nat), u < 8 → IsOrd ps.length r → accB off hs ps u r = true → t < u ∨ t = u ∧ lexB r o = false := by
 obtain ⟨i, hi, h1, h2⟩ := find_spec h
 simp only [Option.map_eq_some_iff, Prod.mk.injEq] at h1
 obtain ⟨o', h1, rfl, rfl⟩ := h1
 obtain ⟨q1, q2, _⟩ := srch_some ps.length [] o' h1 (by simp) (by simp) (by simp)
 refine ⟨hi, q1, q2, fun u r hu hr ha => ?_⟩
 rcases Nat.lt_trichotomy u i with q | q | q
 ·have h3 := h2 u q
  have h4 : srch ps.length (accB off hs ps u) ps.length [] = none := by simpa using h3
  have := srch_none ps.length [] h4 (by simp) r (by simpa using hr)
  rw [List.nil_append, ha] at this
  cases this
 ·subst q
  refine .inr ⟨rfl, ?_⟩
  have := srch_first ps.length [] o' h1 (by simp) (by simp) (by simp) r (by simpa using hr) (by simpa using ha)
  simpa using this
 ·exact .inl q
end Go.AM
namespace Go.AM
open Go
variable [Keep]
theorem ok80 {p : Pt} : okPt 80 p = true ↔ (-80 ≤ p.x ∧ p.x ≤ 80) ∧ (-80 ≤ p.y ∧ p.y ≤ 80) := by
 have : w64 (-80) = -80 := rfl
 simp only [okPt, inB, this, Bool.and_eq_true, decide_eq_true_eq]
def lin (t : Nat) (p : Pt) : Pt :=
 match t with
 | 0 => p
 | 1 => ⟨-p.y, p.x⟩
 | 2 => ⟨-p.x, -p.y⟩
 | 3 => ⟨p.y, -p.x⟩
 | 4 => ⟨-p.x, p.y⟩
 | 5 => ⟨-p.y, -p.x⟩
 | 6 => ⟨p.x, -p.y⟩
 | _ => ⟨p.y, p.x⟩
theorem lt8 {t : Nat} (h : t < 8) : t = 0 ∨ t = 1 ∨ t = 2 ∨ t = 3 ∨ t = 4 ∨ t = 5 ∨ t = 6 ∨ t = 7 := by omega
theorem turn_lin {t : Nat} (ht : t < 8) {p : Pt} (hp : okPt 80 p = true) : turnP (t : Int) p = lin t p := by
 obtain ⟨x, y⟩ := p
 rw [ok80] at hp
 simp only at hp
 have e1 : w64 (-x) = -x := wrap_small (by omega) (by omega)
 have e2 : w64 (-y) = -y := wrap_small (by omega) (by omega)
 have e3 : w64 x = x := wrap_small (by omega) (by omega)
 have e4 : w64 y = y := wrap_small (by omega) (by omega)
 have c0 : w64 0 = 0 := rfl
 have c1 : w64 1 = 1 := rfl
 have c2 : w64 2 = 2 := rfl
 have c3 : w64 3 = 3 := rfl
 rcases lt8 ht with rfl | rfl | rfl | rfl | rfl | rfl | rfl | rfl <;> simp [turnP, lin, iter, quarter, flipX, e1, e2, e3, e4, c0, c1, c2, c3]
theorem lin_ok {t : Nat} (ht : t < 8) {p : Pt} (hp : okPt 80 p = true) : okPt 80 (lin t p) = true := by
 rw [ok80] at hp ⊢
 rcases lt8 ht with rfl | rfl | rfl | rfl | rfl | rfl | rfl | rfl <;> simp only [lin] <;> omega
theorem turn_ok {t : Nat} (ht : t < 8) {p : Pt} (hp : okPt 80 p = true) : okPt 80 (turnP (t : Int) p) = true := by
 rw [turn_lin ht hp]
 exact lin_ok ht hp
def after (s t : Nat) : Nat := if s / 4 = t / 4 then (t + 4 - s % 4) % 4 else 4 + (s + t) % 4
def farS (p q : Pt) : Int := w64 (w64 (w64 (p.x - q.x) * w64 (p.x - q.x)) + w64 (w64 (p.y - q.y) * w64 (p.y - q.y)))
def againS (turn : Int) : Nat → List Pt → Option (List Pt)
 | 0, l => some l
 | k + 1, l => if inB turn 0 7 && allB l 0 80 then (if pointsB (l.map (turnP turn)) l.length l.length 80 then againS turn k (l.map (turnP turn)) else none) else none
theorem match_iff {off : Int} {hs ps : List Pt} : (matchS off hs ps).isSome = true ↔ ∃ (t : Nat) (o : List Nat), t < 8 ∧ IsOrd ps.length o ∧ accB off hs ps (t : Nat) o = true := by
 constructor
 ·intro h
  cases hm : matchS off hs ps with
  | none => rw [hm] at h; cases h
  | some m =>
   obtain ⟨t, o⟩ := m
   obtain ⟨h1, h2, h3, _⟩ := match_some hm
   exact ⟨t, o, h1, h2, h3⟩
 ·rintro ⟨t, o, h1, h2, h3⟩
  cases hm : matchS off hs ps with
  | none =>
   have := match_none hm h1 h2
   rw [h3] at this
   cases this
  | some m => rfl
end Go.AM
namespace Go.AM
open Go Go.Proofs
variable [Keep]
attribute [local irreducible] W WO WO1 WD WQ WT thenQ blockQ endR isRet retK Cl ClR
attribute [local irreducible] farS
def sp33 : List AV → Option AV
 | [.agg [.int .i64 x, .int .i64 y], .agg [.int .i64 a, .int .i64 b]] => some (.int .i64 (farS ⟨x, y⟩ ⟨a, b⟩))
 | _ => none
def againV : Option (List Pt) → AV
 | some l => slN (l.map ptC.enc)
 | none => .nilslice
def sp32 : List AV → Option AV
 | [a, .int .i64 turn, .int .i64 times] => match slV ptC a with
  | some l => if inB times 1 4 = true then some (againV (againS turn times.toNat l)) else none
  | none => none
 | _ => none
attribute [local irreducible] againS
end Go.AM
namespace Go.AM
open Go Go.Proofs
variable [Keep]
attribute [local irreducible] W WO WO1 WD WQ WT thenQ blockQ endR isRet retK Cl ClR
theorem calm_rd {X : Ctx} {f : FuncId} {ops : Array Oper} {ts : List (Nat × Trace)} {i k : Nat} {r : List (Nat × Nat)} {y : Oper} {d : Option Tmp} {op : Op} {T : TypeId} {ps : String} {af : Array Edge}
  {f1 f2 : FuncId} {r1 r2 : Bool} {e1 e2 : Mp AV} {lm1 lm2 : Mp (Nat × List AV)} {hp1 hp2 : Heap} {df1 df2 : List (AV × List AV)} {up1 up2 : Option (AV × Bool)} {v1 v2 : AV} {a1 b2 : Fr}
  (h1 : ops[i]? = some ⟨d, op, T, ps, af, none⟩) (h2 : ops[k]? = some y) (h3 : traceOf ts i = some ⟨Fr.mk f1 r1 e1 lm1 hp1 df1 up1, v1, a1⟩) (h4 : traceOf ts k = some ⟨b2, v2, Fr.mk f2 r2 e2 lm2 hp2 df2 up2⟩)
  (h5 : isEffD X f ⟨d, op, T, ps, af, none⟩ = false) (h7 : rdV X (Fr.mk f1 r1 e1 lm2 hp2 df1 up1) d op = some v1) (h8 : r.all (calmPair X f ops ts) = true) : ((i, k) :: r).all (calmPair X f ops ts) = true := by
 simp only [List.all_cons, h8, Bool.and_true, calmPair, h1, h2, h3, h4, h5, Bool.false_eq_true, if_false, rereads, wantedA, if_true, h7]
 exact AV.same_refl _
def befB : List Int → List Int → Bool
 | [], r => !r.isEmpty
 | _ :: _, [] => false
 | a :: l, b :: r => if a = b then befB l r else decide (a < b)
attribute [local irreducible] befB
def ordAt (l : List Int) (many : Int) (i : Nat) : Bool := ((List.range i).all fun k => !(l.getD i 0 == l.getD k 0)) && inB (l.getD i 0) 0 (w64 (many - 1))
def orderB (l : List Int) (many : Int) : Bool := ((List.range l.length).all (ordAt l many)) && ((l.length : Int) == many)
end Go.AM
namespace Go.AM
open Go Go.Proofs
variable [Keep]
attribute [local irreducible] W WO WO1 WD WQ WT thenQ blockQ endR isRet retK Cl ClR
attribute [local irreducible] roundQ RdR clR
theorem Blt.ext {h h' : Heap} {v : AV} {sz : Nat} {l : List AV} (b : Blt h v sz l) (k : HExt h h') : Blt h' v sz l := by
 rcases b with q | ⟨id, h1, h2, h3, h4⟩
 ·exact .inl q
 ·exact .inr ⟨id, h1, (k.2 id h3).trans h2, Nat.lt_of_lt_of_le h3 k.1, h4⟩
section
variable {X : Ctx} {ops : Array Oper} {K P : AV → Fr → Prop} {F : Fr} {d : Option Tmp} {T : TypeId} {p : String} {af : Array Edge}
end
def kidsTo (p : List Nat) (m : Nat) : List (List Nat) := ((List.range m).filter fun v => !p.contains v).map fun v => p ++ [v]
def lev (n : Nat) : Nat → List (List Nat)
 | 0 => [[]]
 | i + 1 => (lev n i).flatMap fun p => kidsTo p n
def Elems (h : Heap) (es : List AV) (ps : List (List Nat)) : Prop := es.length = ps.length ∧ ∀ (i : Nat) (r : AV) (p : List Nat), es[i]? = some r → ps[i]? = some p → Blt h r 1 (natsV p)
theorem Elems.ext {h h' : Heap} {es : List AV} {ps : List (List Nat)} (q : Elems h es ps) (k : HExt h h') : Elems h' es ps := ⟨q.1, fun i r p h1 h2 => (q.2 i r p h1 h2).ext k⟩
theorem Elems.add {h : Heap} {es : List AV} {ps : List (List Nat)} {r : AV} {p : List Nat} (q : Elems h es ps) (b : Blt h r 1 (natsV p)) : Elems h (es ++ [r]) (ps ++ [p]) := by
 refine ⟨by simp [q.1], fun i r' p' h1 h2 => ?_⟩
 have hl := q.1
 rcases Nat.lt_trichotomy i es.length with c | c | c
 ·rw [List.getElem?_append_left c] at h1
  rw [List.getElem?_append_left (by omega)] at h2
  exact q.2 i r' p' h1 h2
 ·subst c
  rw [List.getElem?_append_right (Nat.le_refl _)] at h1
  rw [hl, List.getElem?_append_right (Nat.le_refl _)] at h2
  simp at h1 h2
  subst h1 h2
  exact b
 ·rw [List.getElem?_eq_none (by simp; omega)] at h1
  cases h1
def ordsR (h : Heap) (n : Nat) (r : COut) : Prop := ∃ es h', r = .ret (.vslice es) h' none ∧ HExt h h' ∧ Elems h' es (lev n n)
end Go.AM
namespace Go.AM
open Go Go.Proofs
variable [Keep]
attribute [local irreducible] W WO WO1 WD WQ WT thenQ blockQ endR isRet retK Cl ClR
attribute [local irreducible] farS againS matchS measB
noncomputable def c4 : Itr
 | 31 => some (pureFn sp31)
 | 32 => some (pureFn sp32)
 | 33 => some (pureFn sp33)
 | 34 => some (pureFn sp34)
 | f => c25 cK f
theorem meas_len {l : List Pt} {off : Int} (h : measB l off = true) : 2 ≤ l.length ∧ l.length ≤ 4 := by
 unfold measB at h
 simp only [allB, inB, Bool.and_eq_true, decide_eq_true_eq] at h
 omega
end Go.AM
namespace Go.AM
open Go Go.Proofs
variable [Keep]
attribute [local irreducible] W WO WO1 WD WQ WT thenQ blockQ endR isRet retK Cl ClR
theorem meas_ok {l : List Pt} {off : Int} (h : measB l off = true) : l.all (okPt 80) = true ∧ 0 ≤ off ∧ off ≤ 6 := by
 unfold measB at h
 rw [allB_P] at h
 simp only [pointsB, inB, Bool.and_eq_true, decide_eq_true_eq] at h
 refine ⟨List.all_eq_true.2 fun p hp => ?_, by omega⟩
 have := List.all_eq_true.1 h.1.2.1 p hp
 have e : w64 (-20) = -20 := rfl
 simp only [okPt, inB, e, Bool.and_eq_true, decide_eq_true_eq] at this
 rw [ok80]
 omega
attribute [local irreducible] againS measB orderB
end Go.AM
namespace Go.AM
open Go Go.Proofs
variable [Keep]
attribute [local irreducible] W WO WO1 WD WQ WT thenQ blockQ endR isRet retK Cl ClR
def ext (n : Nat) : Nat → List Nat → List (List Nat)
 | 0, p => [p]
 | d + 1, p => (kidsTo p n).flatMap (ext n d)
end Go.AM
