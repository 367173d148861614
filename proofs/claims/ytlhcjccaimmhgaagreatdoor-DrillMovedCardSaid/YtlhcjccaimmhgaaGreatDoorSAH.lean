/-
  Texts of the proof: an evaluator of the program's code, its soundness, contracts of functions.
-/
import Derived.Test.YtlhcjccaimmhgaaGreatDoorSAG
import Derived.Test.YtlhcjccaimmhgaaGreatDoorSAE
import Derived.Test.YtlhcjccaimmhgaaGreatDoorSAC
set_option linter.unusedSectionVars false
set_option linter.unusedVariables false
set_option linter.unusedSimpArgs false
set_option maxRecDepth 100000
namespace Go.AM
open Go Go.Proofs
variable [Keep]
attribute [local irreducible] W WO WO1 WD WQ WT thenQ blockQ endR isRet retK Cl ClR
attribute [local irreducible] roundQ RdR
theorem calm_end {X : Ctx} {f : FuncId} {ops : Array Oper} {ts : List (Nat × Trace)} : ([] : List (Nat × Nat)).all (calmPair X f ops ts) = true := rfl
def natsV (p : List Nat) : List AV := p.map fun k : Nat => AV.int .i64 (k : Int)
theorem natsV_len (p : List Nat) : (natsV p).length = p.length := by simp [natsV]
theorem natsV_ints (p : List Nat) : natsV p = (p.map fun k : Nat => (k : Int)).map intC.enc := by simp [natsV, intC]
theorem natsV_pur (p : List Nat) : ∀ a ∈ natsV p, a.pur = true := by
 intro a ha
 obtain ⟨k, _, rfl⟩ := List.mem_map.1 ha
 rfl
theorem purL_all : ∀ {l : List AV}, (∀ a ∈ l, a.pur = true) → AV.purL l = true := by
 intro l
 induction l with
 | nil => intro _; rfl
 | cons a l ih =>
  intro h
  simp only [AV.purL, Bool.and_eq_true]
  exact ⟨h a (by simp), ih (fun b hb => h b (by simp [hb]))⟩
theorem Blt.seen {h : Heap} {v : AV} {sz : Nat} {l : List AV} (b : Blt h v sz l) (hp : ∀ a ∈ l, a.pur = true) : viewV h v = some (slN l) := by
 rcases b with ⟨rfl, rfl⟩ | ⟨id, rfl, hg, h3, hne⟩
 ·rfl
 ·have h1 : AV.purL l = true := purL_all hp
  cases l with
  | nil => exact absurd rfl hne
  | cons x l => simp [viewV, hg, h1, slN]
section
variable {X : Ctx} {ops : Array Oper} {K P : AV → Fr → Prop} {F : Fr} {d : Option Tmp} {T : TypeId} {p : String} {af : Array Edge}
theorem WO1.append0 {args : Array Operand} {at_ : Array TypeId} {t u e e' : TypeId} {tl : List TypeId} {sz : Nat} {x y : AV} {new : List AV} (hx : x = .vempty ∨ x = .nilslice) (hargs : F.opvs args.toList = some [x, y]) (ht : at_.toList = t :: u :: tl) (hu : X.P.underlying u = some (.slice e'))
  (hel : elemT X.P t = some e) (hs : szT X.P e = sz) (hrow : rowable X.P e = true) (hy : F.hp.elems y = some new) (hsz : ∀ v ∈ new, v.cells.length = sz) (hlen : new.length ≤ most) (hne : new ≠ [])
  (h : K (.row F.hp.next 0 new.length) (({ F with hp := F.hp.new (.rw sz new) } : Fr).put d (.row F.hp.next 0 new.length))) : WO1 X ops ⟨d, .call ⟨.builtin .append, args, at_⟩, T, p, af, none⟩ F K P := by
 subst hs
 have h1 : (new.all fun v => v.cells.length == szT X.P e) = true := List.all_eq_true.2 fun v hv => by simpa using hsz v hv
 have h2 : ¬ new.length = 0 := by simpa using hne
 have e1 : appendV X.P F t x new = some (.row F.hp.next 0 new.length, { F with hp := F.hp.new (.rw (szT X.P e) new) }) := by
  rcases hx with rfl | rfl <;> simp [appendV, hel, h1, hrow, hlen, h2, hne]
 refine U5 (v := .row F.hp.next 0 new.length) (F' := { F with hp := F.hp.new (.rw (szT X.P e) new) }) rfl (fun cl rd => ?_) h
 simp only [efV, Fr.callOp, Fr.builtinE, Fr.appendE, ht, hargs, hu]
 cases y <;> first | (simp only [hy, e1, okO]; done) | simp [Heap.elems] at hy
end
theorem K166 {X : Ctx} (hX : X.intr 166 = some (flatFn sp166)) (a : AV) (l : List Int) (v : Int) (ha : slV intC a = some l) (h : Heap) : Cl X 166 [a, .int .i64 v] h (.ret (.int .i64 (idxOf (fun x => decide (v = x)) l)) h none) :=
 Cl.intr hX (by simp [flatFn, viewVs, view_pur (sl_pur ha), view_pur (a := .int .i64 v) rfl, sp166, ha])
def sp116 : List AV → Option AV
 | [a, .int .i64 v] => (slV intC a).map fun l => .bool (l.any fun x => decide (v = x))
 | _ => none
theorem p116 : ∀ args v, sp116 args = some v → v.flat = true := by
 intro args v h
 unfold sp116 at h
 split at h
 ·simp only [Option.map_eq_some_iff] at h; obtain ⟨l, _, rfl⟩ := h; rfl
 ·cases h
noncomputable def cFA : FuncId → Option (List AV → Heap → Option (AV × Heap))
 | 166 => some (flatFn sp166)
 | _ => none
theorem cFA_sound : Sound (dX cFA) := dX_sound (fun f g h => by
 unfold cFA at h
 split at h
 ·cases h; exact F166
 ·cases h)
theorem F116 : IntrFn Tryz.prog 116 (flatFn sp116) := by
 refine flat_fn (X := dX cFA) cFA_sound p116 ?_
 intro args v h
 unfold sp116 at h
 split at h
 ·rename_i a v
  simp only [Option.map_eq_some_iff] at h
  obtain ⟨l, hl, rfl⟩ := h
  have hout := sl_out hl
  have hb := idxOf_any (fun x => decide (v = x)) l
  rw [← hb]
  have k166 : ∀ h, Cl (dX cFA) 166 [a, .int .i64 v] h (.ret (.int .i64 (idxOf (fun x => decide (v = x)) l)) h none) := fun h => K166 rfl a l v hl h
  generalize idxOf (fun x => decide (v = x)) l = n at *
  clear hl hb
  refine ClR.walk (c := _) rfl Tryz.func116 rfl (by kernel_rfl) rfl isRet_fail ?_
  simp only [entryEnv, Nat.reduceAdd]
  repeat' (first | refine goS ?_ | (apply U6; exact Z1; exact Z1; (focus (simp only [List.nil_append, List.append_nil]; first | exact k166 _)); simp only [pM, pN, rR, rP]) | refine go2 (fun hh => ?_) (fun hh => ?_) | fail)
  all_goals (simp only [resV_def (X := dX cFA) Tryz.func116, Tryz.results116]; first | exact J5 | refine J6 ?_)
 ·cases h
theorem any_nats (p : List Nat) (v : Nat) : (p.map fun k : Nat => (k : Int)).any (fun x => decide ((v : Int) = x)) = p.contains v := by
 induction p with
 | nil => rfl
 | cons a p ih =>
  simp only [List.map_cons, List.any_cons, List.contains_cons, ih]
  congr 1
  rw [Bool.eq_iff_iff]
  simp
  omega
theorem K116 {X : Ctx} (hX : X.intr 116 = some (flatFn sp116)) (a : AV) (p : List Nat) (v : Nat) (h : Heap) (b : Blt h a 1 (natsV p)) (hm : p.length ≤ maxL) : Cl X 116 [a, .int .i64 (v : Nat)] h (.ret (.bool (p.contains v)) h none) :=
 Cl.intr hX (by
  have e1 := b.seen (natsV_pur p)
  have e2 : slV intC (slN (natsV p)) = some (p.map fun k : Nat => (k : Int)) := by
   rw [natsV_ints]
   exact slV_slN (by simpa using hm)
  have e3 := any_nats p v
  simp only [flatFn, viewVs, e1, view_pur (a := .int .i64 (v : Int)) rfl, sp116, e2, Option.map_some, e3])
def clR (h : Heap) (l : List AV) (r : COut) : Prop := ∃ v h', r = .ret v h' none ∧ BltN h.next h' v 1 l ∧ HExt h h'
theorem clR_fail {h : Heap} {l : List AV} : ¬ clR h l .fail := by rintro ⟨_, _, e, _⟩; cases e
theorem clR_ret {h h' : Heap} {v : AV} {l : List AV} (b : BltN h.next h' v 1 l) (x : HExt h h') : clR h l (.ret v h' none) := ⟨v, h', rfl, b, x⟩
attribute [local irreducible] clR
theorem hext_new (h : Heap) (b : Blk) : HExt h (h.new b) := ⟨Nat.le_succ _, fun id hi => by rw [Heap.get_new, if_neg (by omega)]⟩
theorem eq39n : binV Tryz.prog .eql 39 true .nilslice .nilslice = some (.bool true) := by
 simp [binV, eqOp, eqV, isSliceT, whenB, Tryz.underlying39]
theorem eq39r (id n : Nat) : binV Tryz.prog .eql 39 true (.row id 0 n) .nilslice = some (.bool false) := by
 simp [binV, eqOp, eqV, isSliceT, whenB, Tryz.underlying39]
theorem C118 (c : FuncId → Option (List AV → Heap → Option (AV × Heap))) (hc : c 118 = none) (a : AV) (p : List Nat) (h : Heap) (b : Blt h a 1 (natsV p)) (hm : p.length ≤ 1000) : ClR (dX c) 118 [a] h (clR h (natsV p)) := by
 have hsz : ∀ v ∈ natsV p, v.cells.length = 1 := fun v hv => by
  obtain ⟨k, _, rfl⟩ := List.mem_map.1 hv
  rfl
 have hlen : (natsV p).length ≤ most := by rw [natsV_len]; unfold most; omega
 refine ClR.walk (c := _) hc Tryz.func118 rfl (by kernel_rfl) rfl clR_fail ?_
 simp only [entryEnv, Nat.reduceAdd]
 rcases b with ⟨rfl, hnil⟩ | ⟨id, rfl, hg, hid, hne⟩
 ·have HN := Lib.hid hnil
  have hq := eq39n
  clear hsz hlen hnil
  repeat' (first | refine goS ?_ | refine go2 (fun hh => ?_) (fun hh => ?_) | fail)
  all_goals (simp only [resV_def (X := dX c) Tryz.func118, Tryz.results118]; first | exact J5 | refine J6 ?_)
  rw [HN.out]
  exact clR_ret BltN.nil (HExt.refl h)
 ·have hel : h.elems (.row id 0 (natsV p).length) = some (natsV p) := by simp [Heap.elems, hg]
  have hq := eq39r id (natsV p).length
  have HG := Lib.hid hg
  have HI := Lib.hid hid
  clear hg hid
  repeat' (first | (apply WO1.append0 (t := 39) (u := 39) (e := 3) (e' := 3) (sz := 1) (tl := []) (new := natsV p) (hx := .inl rfl); exact Z1; exact rfl; exact Z2; exact Z2; exact Z2; (focus (exact ty_row39)); (focus (first | exact Z2 | exact hel)); (focus (exact hsz)); (focus (exact hlen)); (focus (exact hne)); simp only [pM, pN]) | refine go1 ?_ | refine go2 (fun hh => ?_) (fun hh => ?_) | fail)
  all_goals (simp only [resV_def (X := dX c) Tryz.func118, Tryz.results118]; first | exact J5 | refine J6 ?_)
  refine clR_ret (.inr ⟨h.next, rfl, ?_, Nat.le_refl _, Nat.lt_succ_self _, hne⟩) (hext_new _ _)
  rw [Heap.get_new, if_pos rfl]
end Go.AM
namespace Go.AM
open Go Go.Proofs
variable [Keep]
attribute [local irreducible] W WO WO1 WD WQ WT thenQ blockQ endR isRet retK Cl ClR
attribute [local irreducible] roundQ RdR clR
def srch (n : Nat) (acc : List Nat → Bool) : Nat → List Nat → Option (List Nat)
 | 0, p => if acc p then some p else none
 | d + 1, p => (List.range n).findSome? fun i => if p.contains i then none else srch n acc d (p ++ [i])
def seaR (h : Heap) (D : List Nat → Heap → Prop) (x : Option (List Nat)) (r : COut) : Prop :=
 ∃ h', (x = none ∧ r = .ret (.bool true) h' none ∧ HExt h h') ∨ (∃ o, x = some o ∧ r = .ret (.bool false) h' none ∧ D o h')
theorem seaR_fail {h : Heap} {D : List Nat → Heap → Prop} {x : Option (List Nat)} : ¬ seaR h D x .fail := by
 rintro ⟨h', ⟨_, e, _⟩ | ⟨o, _, e, _⟩⟩ <;> cases e
theorem seaR_no {h h' : Heap} {D : List Nat → Heap → Prop} {x : Option (List Nat)} (e : x = none) (k : HExt h h') : seaR h D x (.ret (.bool true) h' none) := ⟨h', .inl ⟨e, rfl, k⟩⟩
theorem seaR_yes {h h' : Heap} {D : List Nat → Heap → Prop} {x : Option (List Nat)} {o : List Nat} (e : x = some o) (k : D o h') : seaR h D x (.ret (.bool false) h' none) := ⟨h', .inr ⟨o, e, rfl, k⟩⟩
theorem find_none {α : Type} {n : Nat} {f : Nat → Option α} (h : ∀ j, j < n → f j = none) : (List.range n).findSome? f = none := by
 rw [List.findSome?_eq_none_iff]
 intro j hj
 exact h j (by simpa using hj)
theorem find_some {α : Type} {f : Nat → Option α} {o : α} : ∀ {n i : Nat}, (∀ j, j < i → f j = none) → f i = some o → i < n → (List.range n).findSome? f = some o := by
 intro n
 induction n with
 | zero => intro i _ _ h; omega
 | succ n ih =>
  intro i h1 h2 h3
  rw [List.range_succ, List.findSome?_append]
  by_cases hi : i < n
  ·rw [ih h1 h2 hi]; rfl
  ·obtain rfl : i = n := by omega
   rw [find_none h1]
   simp [h2]
def NatsLt (n : Nat) (p : List Nat) : Prop := ∀ k ∈ p, k < n
set_option maxHeartbeats 4000000 in
theorem C168 (c : FuncId → Option (List AV → Heap → Option (AV × Heap))) (hc : c 168 = none) (hc2 : c 116 = some (flatFn sp116)) (hc3 : c 118 = none) (n L bm bn bs : Nat) (hn : n ≤ 8) (hb : Heap) (D : List Nat → Heap → Prop) (acc : List Nat → Bool)
  (g1 : hb.get bm = some (.var [.int .i64 ↑n])) (g2 : hb.get bn = some (.var [.yield L])) (g3 : hb.get bs = some (.var [.func (.func 168) [] [.ptr bm 0, .ptr bn 0, .ptr bs 0]])) (l1 : bm < hb.next) (l2 : bn < hb.next) (l3 : bs < hb.next)
  (hrd : ∀ o a h, HExt hb h → o.length = n → NatsLt n o → Blt h a 1 (natsV o) → RdR (dX c) L [a] h (seaR h D (if acc o then some o else none))) :
  ∀ d p a h, p.length + d = n → NatsLt n p → HExt hb h → Blt h a 1 (natsV p) → ClR (dX c) 168 [a, .ptr bm 0, .ptr bn 0, .ptr bs 0] h (seaR h D (srch n acc d p)) := by
 intro d
 induction d with
 | zero =>
  intro p a h hd hlt hx b
  have hR := hrd p a h hx (by omega) hlt b
  have q1 := (hx.2 bm l1).trans g1
  have q2 := (hx.2 bn l2).trans g2
  have hlen := b.len
  have hout := b.out
  have e1 : (((natsV p).length : Int) == (n : Int)) = true := by rw [natsV_len]; simp; omega
  unfold RdR at hR
  obtain ⟨r, hyl, hq⟩ := hR
  have hs : srch n acc 0 p = (if acc p then some p else none) := rfl
  rw [hs]
  generalize (if acc p then some p else none) = x at *
  have HL := Lib.hid hlt
  have HR := Lib.hid hrd
  have HX := Lib.hid hx
  have HB := Lib.hid b
  clear hlt hrd hx b hs g1 g2 g3 hd
  obtain ⟨h', ⟨ex, rfl, k⟩ | ⟨o, ex, rfl, k⟩⟩ := hq
  ·have EX := Lib.hid ex
   clear ex
   refine ClR.walk (c := _) hc Tryz.func168 rfl (by kernel_rfl) rfl seaR_fail ?_
   simp only [entryEnv, Nat.reduceAdd]
   repeat' (first | (apply WO1.round; exact Z1; exact Z1; (focus (exact hyl)); simp only [pM, pN, rR, rP]) | refine go1 ?_ | refine go2 (fun hh => ?_) (fun hh => ?_) | fail)
   all_goals (simp only [resV_def (X := dX c) Tryz.func168, Tryz.results168]; first | exact J5 | refine J6 ?_)
   exact seaR_no EX.out k
  ·have EX := Lib.hid ex
   clear ex
   refine ClR.walk (c := _) hc Tryz.func168 rfl (by kernel_rfl) rfl seaR_fail ?_
   simp only [entryEnv, Nat.reduceAdd]
   repeat' (first | (apply WO1.round; exact Z1; exact Z1; (focus (exact hyl)); simp only [pM, pN, rR, rP]) | refine go1 ?_ | refine go2 (fun hh => ?_) (fun hh => ?_) | fail)
   all_goals (simp only [resV_def (X := dX c) Tryz.func168, Tryz.results168]; first | exact J5 | refine J6 ?_)
   exact seaR_yes EX.out k
 | succ d ih =>
  intro p a h hd hlt hx b
  have q1 := (hx.2 bm l1).trans g1
  have hlen := b.len
  have hout := b.out
  have e1 : (((natsV p).length : Int) == (n : Int)) = false := by rw [natsV_len]; simp; omega
  have HL := Lib.hid hlt
  have HX := Lib.hid hx
  have HB := Lib.hid b
  have HIH := Lib.hid ih
  have HG2 := Lib.hid g2
  have HG3 := Lib.hid g3
  have HG1 := Lib.hid g1
  clear hlt hrd hx b g1 g2 g3 ih
  have hs : srch n acc (d + 1) p = (List.range n).findSome? (fun i => if p.contains i then none else srch n acc d (p ++ [i])) := rfl
  rw [hs]
  have HS := Lib.hid hs
  clear hs
  refine ClR.walk (c := _) hc Tryz.func168 rfl (by kernel_rfl) rfl seaR_fail ?_
  simp only [entryEnv, Nat.reduceAdd]
  repeat' (first | refine goS ?_ | refine go2 (fun hh => ?_) (fun hh => ?_) | fail)
  refine W.loopN n (fun i F => ∃ e hp, F = Fr.mk 168 false e .nil hp [] none ∧ HExt h hp ∧ (∀ j, j < i → (if p.contains j then none else srch n acc d (p ++ [j])) = none) ∧ e.get 0 = some a ∧ e.get 1 = some (.ptr bm 0) ∧ e.get 2 = some (.ptr bn 0) ∧ e.get 3 = some (.ptr bs 0) ∧ e.get 14 = some (.int .i64 ↑n) ∧ e.get 15 = some (.int .i64 ↑i) ∧ i ≤ n) ?_ ?_
  ·refine ⟨_, _, rfl, HExt.refl h, fun j hj => absurd hj (by omega), ?_, ?_, ?_, ?_, ?_, ?_, ?_⟩ <;> first | exact Z2 | simp [go_sem, *]
  rintro i F ⟨e, hp, rfl, hx0, hno, h0, h1, h2, h3, h14, h15, hi⟩
  have hx1 : HExt hb hp := HX.out.trans hx0
  have HNO := Lib.hid hno
  clear hno q1
  by_cases hin : i < n
  ·have hdl : decide ((i : Int) < (n : Int)) = true := by simpa using hin
   have hw := wrap_succ hin (by unfold maxL; omega)
   have hb0 : Blt hp a 1 (natsV p) := by
    rcases HB.out with q | ⟨id, r1, r2, r3, r4⟩
    ·exact .inl q
    ·exact .inr ⟨id, r1, (hx0.2 id r3).trans r2, Nat.lt_of_lt_of_le r3 hx0.1, r4⟩
   have k116 : ∀ hq : Heap, hq = hp → Cl (dX c) 116 [a, .int .i64 ↑i] hq (.ret (.bool (p.contains i)) hq none) := fun hq e => by subst e; exact K116 hc2 a p i hq hb0 (by unfold maxL; omega)
   have k116 := k116 hp rfl
   cases hpi : p.contains i with
   | true =>
    rw [hpi] at k116
    clear hb0
    have HX0 := Lib.hid hx0
    clear hx0 hx1
    repeat' (first | (apply W.draw (id := 6) (lc := [0, 1, 2, 3, 4, 5, 6, 7, 8, 9, 10, 11, 12, 13]) (hot := [(5, 7), (5, 10)]); kernel_rfl; kernel_rfl; kernel_rfl; exact Z4) | (refine WD.nil ⟨?_, ?_⟩; rotate_left; simp only [tN, bN, eN, true_and]) | (refine WD.cons rfl rfl ?_) | (refine calm_end) | (refine calmGN (b := false) rfl rfl rfl rfl rfl rfl rfl ?_ rfl ?_; (focus exact Z2)) | refine go1 ?_ | (apply U6; exact Z1; exact Z1; (focus (simp only [List.nil_append, List.append_nil]; first | exact k116)); simp only [pM, pN, rR, rP]) | refine go2 (fun hh => ?_) (fun hh => ?_) | fail)
    refine ⟨hin, _, _, rfl, HX0.out, fun j hj => ?_, ?_, ?_, ?_, ?_, ?_, ?_, by omega⟩
    ·rcases Nat.lt_or_ge j i with q | q
     ·exact HNO.out j q
     ·obtain rfl : j = i := by omega
      rw [if_pos hpi]
    all_goals exact Z2
   | false =>
    rw [hpi] at k116
    have q3 := (hx1.2 bs l3).trans HG3.out
    have hcl0 := C118 c hc3 a p hp hb0 (by omega)
    unfold ClR at hcl0
    obtain ⟨r1, hcl, hcr⟩ := hcl0
    unfold clR at hcr
    obtain ⟨v1, hp1, rfl, hB1, hX1⟩ := hcr
    have ho1 := hB1.blt.out
    have hX1e : hp.next ≤ hp1.next ∧ ∀ id, id < hp.next → hp1.get id = hp.get id := hX1
    have q4 := (hX1.2 bs (Nat.lt_of_lt_of_le l3 hx1.1)).trans q3
    have hll : p.length + (0 + 1) ≤ most := by unfold most; omega
    have HX0 := Lib.hid hx0
    have HX1 := Lib.hid hx1
    clear hx0 hx1 hb0
    repeat' (first | (apply W.draw (id := 6) (lc := [0, 1, 2, 3, 4, 5, 6, 7, 8, 9, 10, 11, 12, 13]) (hot := [(5, 7), (5, 10)]); kernel_rfl; kernel_rfl; kernel_rfl; exact Z4) | (apply U6; exact Z1; exact Z1; (focus (exact hcl)); simp only [pM, pN, rR, rP]) | (apply WO1.appendN (t := 39) (u := 39) (e := 3) (e' := 3) (sz := 1) (tl := []) (b := hp.next) (h0 := hp); (focus (exact hB1)); (focus (exact hX1e)); exact Z1; exact rfl; exact Z2; exact Z2; exact Z2; (focus (exact ty_row39)); exact Z1; (focus (intro v hv; simp at hv; subst hv; rfl)); (focus (simp only [natsV_len, List.length_cons, List.length_nil]; exact hll)); (focus (simp)); (intro v2 hp2 hB2 ho2 hX2; simp only [pM, pN])) | (refine WD.nil ⟨?_, ?_⟩; rotate_left; simp only [tN, bN, eN, true_and]) | (refine WD.cons rfl rfl ?_) | refine go1 ?_ | (apply U6; exact Z1; exact Z1; (focus (simp only [List.nil_append, List.append_nil]; first | exact k116)); simp only [pM, pN, rR, rP]) | refine go2 (fun hh => ?_) (fun hh => ?_) | fail)
    have hrec := HIH.out (p ++ [i]) v2 hp2 (by simp; omega) (fun k hk => by
     rcases List.mem_append.1 hk with q | q
     ·exact HL.out k q
     ·simp at q; omega) (HX1.out.trans ⟨hX2.1, hX2.2⟩) (by simpa [natsV] using hB2.blt)
    unfold ClR at hrec
    obtain ⟨r, hrec, h3', ⟨ex, rfl, k⟩ | ⟨o, ex, rfl, k⟩⟩ := hrec
    ·have EX := Lib.hid ex
     have q5 : hp2.get bs = _ := (hX2.2 bs (Nat.lt_of_lt_of_le l3 HX1.out.1)).trans q3
     have hx5 : HExt hp h3' := HExt.trans ⟨hX2.1, hX2.2⟩ k
     have HX5 := Lib.hid hx5
     clear ex k hx5
     repeat' (first | (refine WD.nil ⟨?_, ?_⟩; rotate_left; simp only [tN, bN, eN, true_and]) | (refine WD.cons rfl rfl ?_) | (refine calm_end) | (refine calmG rfl rfl rfl rfl rfl rfl rfl ?_ ?_ ?_; (focus exact Z2); (focus (first | exact Z2 | exact Z1))) | refine go1 ?_ | (apply U6; exact Z1; exact Z1; (focus (simp only [List.nil_append, List.append_nil]; first | exact hrec)); simp only [pM, pN, rR, rP]) | refine go2 (fun hh => ?_) (fun hh => ?_) | fail)
     refine ⟨hin, _, _, rfl, HX0.out.trans HX5.out, fun j hj => ?_, ?_, ?_, ?_, ?_, ?_, ?_, by omega⟩
     ·rcases Nat.lt_or_ge j i with q | q
      ·exact HNO.out j q
      ·obtain rfl : j = i := by omega
       rw [if_neg (by rw [hpi]; simp)]
       exact EX.out
     all_goals exact Z2
    ·have EX := Lib.hid ex
     have q5 : hp2.get bs = _ := (hX2.2 bs (Nat.lt_of_lt_of_le l3 HX1.out.1)).trans q3
     clear ex
     repeat' (first | (refine WD.nil ⟨?_, ?_⟩; rotate_left; simp only [tN, bN, eN, true_and]) | (refine WD.cons rfl rfl ?_) | (refine calm_end) | (refine calmG rfl rfl rfl rfl rfl rfl rfl ?_ ?_ ?_; (focus exact Z2); (focus (first | exact Z2 | exact Z1))) | refine go1 ?_ | (apply U6; exact Z1; exact Z1; (focus (simp only [List.nil_append, List.append_nil]; first | exact hrec)); simp only [pM, pN, rR, rP]) | refine go2 (fun hh => ?_) (fun hh => ?_) | fail)
     all_goals (simp only [resV_def (X := dX c) Tryz.func168, Tryz.results168]; first | exact J5 | refine J6 ?_)
     refine seaR_yes (find_some HNO.out ?_ hin) k
     rw [if_neg (by rw [hpi]; simp)]
     exact EX.out
  ·have hdl : decide ((i : Int) < (n : Int)) = false := by simpa using hin
   have hin2 : i = n := by omega
   subst hin2
   have HX0 := Lib.hid hx0
   clear hx0 hx1
   repeat' (first | refine goS ?_ | refine go2 (fun hh => ?_) (fun hh => ?_) | fail)
   all_goals (simp only [resV_def (X := dX c) Tryz.func168, Tryz.results168]; first | exact J5 | refine J6 ?_)
   exact seaR_no (find_none HNO.out) HX0.out
end Go.AM
namespace Go.AM
open Go Go.Proofs
variable [Keep]
attribute [local irreducible] W WO WO1 WD WQ WT thenQ blockQ endR isRet retK Cl ClR
attribute [local irreducible] roundQ RdR clR
def seaU (h : Heap) (D : List Nat → Heap → Prop) (x : Option (List Nat)) (r : COut) : Prop :=
 ∃ h', (x = none ∧ r = .ret (.tuple []) h' none ∧ HExt h h') ∨ (∃ o, x = some o ∧ r = .ret (.tuple []) h' none ∧ D o h')
theorem seaU_fail {h : Heap} {D : List Nat → Heap → Prop} {x : Option (List Nat)} : ¬ seaU h D x .fail := by
 rintro ⟨h', ⟨_, e, _⟩ | ⟨o, _, e, _⟩⟩ <;> cases e
theorem seaU_no {h h' : Heap} {D : List Nat → Heap → Prop} {x : Option (List Nat)} (e : x = none) (k : HExt h h') : seaU h D x (.ret (.tuple []) h' none) := ⟨h', .inl ⟨e, rfl, k⟩⟩
theorem seaU_yes {h h' : Heap} {D : List Nat → Heap → Prop} {x : Option (List Nat)} {o : List Nat} (e : x = some o) (k : D o h') : seaU h D x (.ret (.tuple []) h' none) := ⟨h', .inr ⟨o, e, rfl, k⟩⟩
theorem C121 (c : FuncId → Option (List AV → Heap → Option (AV × Heap))) (hc : c 121 = none) (n : Int) (pn : Nat) (pm : Mp Blk) :
  Cl (dX c) 121 [.int .i64 n] ⟨pn, pm⟩ (.ret (.func (.func 167) [] [.ptr pn 0]) ⟨pn + 1, pm.set pn (.var [.int .i64 n])⟩ none) := by
 refine ClR.cl ?_
 refine ClR.walk (c := _) hc Tryz.func121 rfl (by kernel_rfl) rfl (fun e => by cases e) ?_
 simp only [entryEnv, Nat.reduceAdd]
 repeat' (first | refine goS ?_ | refine go2 (fun hh => ?_) (fun hh => ?_) | fail)
 all_goals (simp only [resV_def (X := dX c) Tryz.func121, Tryz.results121]; first | exact J5 | refine J6 ?_)
 have e1 : ∀ (h : Heap) f a b, frz1 h (.func f a b) = some (.func f a b, h) := fun _ _ _ _ => rfl
 simp only [isR, frzRes, dX_frz, dFrz, freeze, frz2, e1, if_true]
theorem hget_set {pn : Nat} {pm : Mp Blk} {n i : Nat} {b : Blk} : (Heap.get ⟨pn, pm.set i b⟩ n) = if i = n then some b else Heap.get ⟨pn, pm⟩ n := by
 simp only [Heap.get, Mp.get_set]
set_option maxHeartbeats 1000000 in
theorem C167 (c : FuncId → Option (List AV → Heap → Option (AV × Heap))) (hc : c 167 = none) (hc1 : c 168 = none) (hc2 : c 116 = some (flatFn sp116)) (hc3 : c 118 = none) (n L bm : Nat) (hn : n ≤ 8) (h : Heap) (D : List Nat → Heap → Prop) (acc : List Nat → Bool)
  (g1 : h.get bm = some (.var [.int .i64 ↑n])) (l1 : bm < h.next)
  (hrd : ∀ o a h1, HExt h h1 → o.length = n → NatsLt n o → Blt h1 a 1 (natsV o) → RdR (dX c) L [a] h1 (seaR h1 D (if acc o then some o else none))) :
  ClR (dX c) 167 [.yield L, .ptr bm 0] h (seaU h D (srch n acc n [])) := by
 obtain ⟨pn, pm⟩ := h
 simp only at l1
 have hx : HExt ⟨pn, pm⟩ ⟨pn + 1 + 1, ((pm.set pn (.var [.yield L])).set (pn + 1) (.var [.nilfunc])).set (pn + 1) (.var [.func (.func 168) [] [.ptr bm 0, .ptr pn 0, .ptr (pn + 1) 0]])⟩ := by
  refine ⟨by simp only; omega, fun id hid => ?_⟩
  simp only at hid
  rw [hget_set, if_neg (by omega), hget_set, if_neg (by omega), hget_set, if_neg (by omega)]
  rfl
 have hrec := C168 c hc1 hc2 hc3 n L bm pn (pn + 1) hn ⟨pn + 1 + 1, ((pm.set pn (.var [.yield L])).set (pn + 1) (.var [.nilfunc])).set (pn + 1) (.var [.func (.func 168) [] [.ptr bm 0, .ptr pn 0, .ptr (pn + 1) 0]])⟩ D acc
  ((hx.2 bm l1).trans g1) (by rw [hget_set, if_neg (by omega), hget_set, if_neg (by omega), hget_set, if_pos rfl]) (by rw [hget_set, if_pos rfl]) (by simp only; omega) (by simp only; omega) (by simp only; omega)
  (fun o a h1 k => hrd o a h1 (hx.trans k)) n [] .nilslice _ (by simp) (fun k hk => by simp at hk) (HExt.refl _) Blt.nil
 unfold ClR at hrec
 obtain ⟨r, hrec, h', ⟨ex, rfl, k⟩ | ⟨o, ex, rfl, k⟩⟩ := hrec
 ·have EX := Lib.hid ex
  have HX := Lib.hid hx
  have HK := Lib.hid k
  clear ex hx g1 hrd k
  refine ClR.walk (c := _) hc Tryz.func167 rfl (by kernel_rfl) rfl seaU_fail ?_
  simp only [entryEnv, Nat.reduceAdd]
  repeat' (first | (apply U6; exact Z1; exact Z1; (focus (exact hrec)); simp only [pM, pN, rR, rP]) | refine go1 ?_ | refine go2 (fun hh => ?_) (fun hh => ?_) | fail)
  all_goals (simp only [resV_def (X := dX c) Tryz.func167, Tryz.results167]; first | exact J5 | refine J6 ?_)
  exact seaU_no EX.out (HX.out.trans HK.out)
 ·have EX := Lib.hid ex
  have HX := Lib.hid hx
  have HK := Lib.hid k
  clear ex hx g1 hrd k
  refine ClR.walk (c := _) hc Tryz.func167 rfl (by kernel_rfl) rfl seaU_fail ?_
  simp only [entryEnv, Nat.reduceAdd]
  repeat' (first | (apply U6; exact Z1; exact Z1; (focus (exact hrec)); simp only [pM, pN, rR, rP]) | refine go1 ?_ | refine go2 (fun hh => ?_) (fun hh => ?_) | fail)
  all_goals (simp only [resV_def (X := dX c) Tryz.func167, Tryz.results167]; first | exact J5 | refine J6 ?_)
  exact seaU_yes EX.out HK.out
end Go.AM
namespace Go.AM
open Go Go.Proofs
variable [Keep]
attribute [local irreducible] W WO WO1 WD WQ WT thenQ blockQ endR isRet retK Cl ClR
attribute [local irreducible] roundQ RdR clR
def offB (off : Int) (p q : Pt) : Bool := okPt off ⟨w64 (p.x - q.x), w64 (p.y - q.y)⟩
def accB (off : Int) (hs ps : List Pt) (t : Int) (o : List Nat) : Bool := (List.range hs.length).all fun i => offB off (turnP t (ps.getD (o.getD i 0) ⟨0, 0⟩)) (hs.getD i ⟨0, 0⟩)
def matchS (off : Int) (hs ps : List Pt) : Option (Nat × List Nat) := (List.range 8).findSome? fun t : Nat => (srch ps.length (accB off hs ps (t : Nat)) ps.length []).map fun o => ((t : Nat), o)
def matchV : Option (Nat × List Nat) → AV
 | some (t, o) => .tuple [.int .i64 (t : Int), slN (natsV o), .bool true]
 | none => .tuple [.int .i64 0, .nilslice, .bool false]
def sp100 : List AV → Option AV
 | [.agg [ca, .int .i64 off], la] => match slV ptC ca, slV ptC la with
  | some hs, some ps => if (decide (hs.length = ps.length) && decide (1 ≤ ps.length) && decide (ps.length ≤ 8)) = true then some (matchV (matchS off hs ps)) else none
  | _, _ => none
 | _ => none
theorem p100 : ∀ args v, sp100 args = some v → v.pur = true := by
 intro args v h
 unfold sp100 at h
 split at h
 ·split at h
  ·split at h
   ·have h := Option.some.inj h
    subst h
    unfold matchV
    split
    ·simp [AV.pur, AV.purL, slN_pur (natsV_pur _)]
    ·rfl
   ·cases h
  ·cases h
 ·cases h
noncomputable def cFD : FuncId → Option (List AV → Heap → Option (AV × Heap))
 | 95 => some (pureFn sp95)
 | 96 => some (pureFn sp96)
 | 116 => some (flatFn sp116)
 | 149 => some (pureFn sp149)
 | _ => none
theorem cFD_sound : Sound (dX cFD) := dX_sound (fun f g h => by
 unfold cFD at h
 split at h
 ·cases h; exact F95
 ·cases h; exact F96
 ·cases h; exact F116
 ·cases h; exact F149
 ·cases h)
theorem nat_row {H : Heap} {id n k : Nat} {o : List Nat} (hn : o.length = n) (hk : k < n) (hg : H.get id = some (.rw 1 (natsV o))) : indexAddrV Tryz.prog H 39 (.row id 0 n) (.int .i64 ↑k) = some (.eptr id 1 k 0) := by
 have b : Blt ⟨id + 1, H.m⟩ (.row id 0 (natsV o).length) 1 (natsV o) := .inr ⟨id, rfl, hg, Nat.lt_succ_self _, fun e => by have := congrArg List.length e; rw [natsV_len] at this; simp at this; rw [this] at hn; simp at hn; omega⟩
 obtain ⟨id', e1, e2⟩ := b.idx (P := Tryz.prog) (t := 39) (e := 3) (ag := false) Tryz.underlying39 ty_lay3 (k := k) (by rw [natsV_len]; omega)
 rw [natsV_len, hn] at e1
 have e3 : indexAddrV Tryz.prog H 39 (.row id 0 n) (.int .i64 ↑k) = indexAddrV Tryz.prog ⟨id + 1, H.m⟩ 39 (.row id 0 n) (.int .i64 ↑k) := rfl
 rw [e3, e1]
 simp only [indexAddrV, Tryz.underlying39, ty_lay3] at e1
 have hg2 : Heap.get ⟨id + 1, H.m⟩ id = some (.rw 1 (natsV o)) := hg
 rw [hg2] at e1
 split at e1 <;> simp_all
theorem nat_at {k : Nat} {o : List Nat} {v : Nat} (hp : o[k]? = some v) : (natsV o)[k]? = some (.int .i64 ↑v) := by simp [natsV, hp]
theorem all_not {n i : Nat} {f : Nat → Bool} (hi : i < n) (h : f i = false) : (List.range n).all f = false := by
 rw [Bool.eq_false_iff]
 intro e
 have := List.all_eq_true.1 e i (by simpa using hi)
 rw [h] at this
 cases this
theorem all_yes {n : Nat} {f : Nat → Bool} (h : ∀ j, j < n → f j = true) : (List.range n).all f = true := List.all_eq_true.2 fun j hj => h j (by simpa using hj)
def Took (L t n : Nat) (o : List Nat) (h : Heap) : Prop := ∃ id f e ps a b, h.get 2 = some (.var [.int .i64 ↑t]) ∧ h.get 3 = some (.var [.row id 0 n]) ∧ h.get 4 = some (.var [.bool true]) ∧ h.get id = some (.rw 1 (natsV o)) ∧ id ≠ L ∧ h.get L = some (.loop f e ps a b .done (some .ret))
theorem srch_len {n : Nat} {acc : List Nat → Bool} : ∀ (d : Nat) (p o : List Nat), srch n acc d p = some o → o.length = p.length + d := by
 intro d
 induction d with
 | zero =>
  intro p o h
  simp only [srch] at h
  split at h
  ·cases h; rfl
  ·cases h
 | succ d ih =>
  intro p o h
  simp only [srch] at h
  obtain ⟨i, hi, h1⟩ := List.exists_of_findSome?_eq_some h
  split at h1
  ·cases h1
  ·have := ih _ _ h1
   simp at this
   omega
theorem took_of {L t n : Nat} {o : List Nat} {h : Heap} {id : Nat} {f : FuncId} {e : Mp AV} {ps : List Tmp} {a b : Code} (h2 : h.get 2 = some (.var [.int .i64 ↑t])) (h3 : h.get 3 = some (.var [.row id 0 n])) (h4 : h.get 4 = some (.var [.bool true])) (hi : h.get id = some (.rw 1 (natsV o))) (hn : id ≠ L) (hL : h.get L = some (.loop f e ps a b .done (some .ret))) : Took L t n o h :=
 ⟨id, f, e, ps, a, b, h2, h3, h4, hi, hn, hL⟩
theorem W.rangeEnds {X : Ctx} {F : Fr} {Q : Out → Prop} {g : Operand} {params : Array Tmp} {assign body : Code} {fid : FuncId} {first capt : List AV} {R : COut → Prop} (hg : F.opv g = some (.func (.func fid) first capt))
  (hc : ClR X fid ((first ++ [.yield F.hp.next]) ++ capt) (F.hp.new (.loop F.f (F.e.map noBox) params.toList assign body .ready none)) R)
  (h : ∀ r, Cl X fid ((first ++ [.yield F.hp.next]) ++ capt) (F.hp.new (.loop F.f (F.e.map noBox) params.toList assign body .ready none)) r → R r → W X (.rangeFunc g params assign body) F Q) : W X (.rangeFunc g params assign body) F Q := by
 unfold ClR at hc
 obtain ⟨r, h1, h2⟩ := hc
 exact h r h1 h2
theorem acc_no {off : Int} {hs ps : List Pt} {t : Int} {o : List Nat} {i : Nat} {p q : Pt} {v : Nat} (hi : hs[i]? = some q) (ho : o[i]? = some v) (hp : ps[v]? = some p) (h : offB off (turnP t p) q = false) : accB off hs ps t o = false := by
 have hil : i < hs.length := by
  rcases Nat.lt_or_ge i hs.length with h' | h'
  ·exact h'
  ·rw [List.getElem?_eq_none h'] at hi; cases hi
 refine all_not hil ?_
 simp only [List.getD, hi, ho, hp, Option.getD_some]
 exact h
theorem off_at {off : Int} {hs ps : List Pt} {t : Int} {o : List Nat} {i : Nat} {p q : Pt} {v : Nat} (hi : hs[i]? = some q) (ho : o[i]? = some v) (hp : ps[v]? = some p) : offB off (turnP t (ps.getD (o.getD i 0) ⟨0, 0⟩)) (hs.getD i ⟨0, 0⟩) = offB off (turnP t p) q := by
 simp only [List.getD, hi, ho, hp, Option.getD_some]
theorem hext_back {h hq : Heap} {L : Nat} {b : Blk} (hn : hq.next = h.next) (hg : ∀ j, j ≠ L → hq.get j = h.get j) (hL : h.get L = some b) : HExt h (hq.put L b) := by
 refine ⟨?_, fun id hid => ?_⟩
 ·show h.next ≤ hq.next
  omega
 ·rw [Heap.get_put]
  split
  ·rename_i e; subst e; exact hL.symm
  ·rename_i e; exact hg id (fun e' => e e'.symm)
set_option maxHeartbeats 8000000 in
theorem F100 : IntrFn Tryz.prog 100 (pureFn sp100) := by
 refine pure_fn (X := dX cFD) cFD_sound p100 ?_
 intro args v h
 unfold sp100 at h
 split at h
 ·rename_i ca off la
  split at h
  ·rename_i hs ps hl hr
   split at h
   ·rename_i hlen
    have h := Option.some.inj h
    subst h
    simp only [Bool.and_eq_true, decide_eq_true_eq] at hlen
    obtain ⟨⟨hn, hn1⟩, hn2⟩ := hlen
    have o1 := sl_out hl
    have o2 := sl_out hr
    have ln1 := sl_len hl
    have ln2 := sl_len hr
    rw [hn] at ln1
    have t1 := (slV_is hl).1.tup
    have t2 := (slV_is hr).1.tup
    have c2 : la.cells = [la] := by rcases (slV_is hr).1 with ⟨rfl | rfl, _⟩ | rfl <;> rfl
    have HV := Lib.hid (show matchV (matchS off hs ps) = matchV (matchS off hs ps) from rfl)
    have HL := Lib.hid hl
    have HR := Lib.hid hr
    have HN := Lib.hid hn
    simp only [AV.cells] at c2
    simp only [isTuple] at t1 t2
    clear hl hr hn
    generalize hres : matchV (matchS off hs ps) = res
    have HRES := Lib.hid hres
    clear hres HV
    refine ClR.walk (c := _) rfl Tryz.func100 rfl (by kernel_rfl) rfl isRet_fail ?_
    simp only [entryEnv, Nat.reduceAdd, emptyHp]
    repeat' (first | refine goS ?_ | refine go2 (fun hh => ?_) (fun hh => ?_) | fail)
    refine W.loopN 8 (fun k F => ∃ e hp, F = Fr.mk 100 false e .nil hp [] none ∧ 5 ≤ hp.next ∧ hp.get 0 = some (.var [ca, .int .i64 off]) ∧ hp.get 1 = some (.var [la]) ∧ hp.get 2 = some (.var [.int .i64 0]) ∧ hp.get 3 = some (.var [.nilslice]) ∧ hp.get 4 = some (.var [.bool false]) ∧
     (∀ j : Nat, j < k → srch ps.length (accB off hs ps j) ps.length [] = none) ∧ e.get 2 = some (.ptr 0 0) ∧ e.get 3 = some (.ptr 1 0) ∧ e.get 4 = some (.ptr 2 0) ∧ e.get 5 = some (.ptr 3 0) ∧ e.get 6 = some (.ptr 4 0) ∧ e.get 12 = some (.int .i64 ↑k) ∧ k ≤ 8) ?_ ?_
    ·refine ⟨_, _, rfl, Nat.le_refl _, rfl, rfl, rfl, rfl, rfl, fun j hj => absurd hj (by omega), ?_, ?_, ?_, ?_, ?_, ?_, ?_⟩ <;> first | exact Z2 | simp [go_sem, *]
    rintro k F ⟨e, ⟨pn, pm⟩, rfl, hpn, g0, g1, g2, g3, g4, hno, h2, h3, h4, h5, h6, h12, hk⟩
    have HNO := Lib.hid hno
    clear hno
    simp only at hpn
    by_cases hlt : k < 8
    ·have hin : inB (k : Int) 0 7 = true := by simp only [inB, Bool.and_eq_true, decide_eq_true_eq]; omega
     have hd : decide ((k : Int) < 8) = true := by simp; omega
     have hw := wrap_succ (m := 8) hlt (by unfold maxL; omega)
     simp only [hp_get] at g0 g1 g2 g3 g4
     have b0 : (pn == 0) = false := beq_eq_false_iff_ne.2 (by omega)
     have d0 : (pn + 1 == 0) = false := beq_eq_false_iff_ne.2 (by omega)
     have b1 : (pn == 1) = false := beq_eq_false_iff_ne.2 (by omega)
     have d1 : (pn + 1 == 1) = false := beq_eq_false_iff_ne.2 (by omega)
     have b2 : (pn == 2) = false := beq_eq_false_iff_ne.2 (by omega)
     have d2 : (pn + 1 == 2) = false := beq_eq_false_iff_ne.2 (by omega)
     have b3 : (pn == 3) = false := beq_eq_false_iff_ne.2 (by omega)
     have d3 : (pn + 1 == 3) = false := beq_eq_false_iff_ne.2 (by omega)
     have b4 : (pn == 4) = false := beq_eq_false_iff_ne.2 (by omega)
     have d4 : (pn + 1 == 4) = false := beq_eq_false_iff_ne.2 (by omega)
     have bd : (pn + 1 == pn) = false := beq_eq_false_iff_ne.2 (by omega)
     repeat' (first | (refine W.label ?_; simp only [tN, bN, eN, true_and]) | refine go1 ?_ | (apply U6; exact Z1; exact Z1; (focus (simp only [List.nil_append, List.append_nil]; first | exact C121 cFD rfl _ _ _)); simp only [pM, pN, rR, rP]) | refine go2 (fun hh => ?_) (fun hh => ?_) | fail)
     apply W.rangeEnds (R := seaU _ (Took (pn + 1 + 1) k ps.length) (srch ps.length (accB off hs ps k) ps.length []))
     ·exact Z1
     ·refine C167 cFD rfl rfl rfl rfl ps.length _ (pn + 1) hn2 _ (Took (pn + 1 + 1) k ps.length) (accB off hs ps k) ?_ ?_ ?_
      ·rw [Heap.get_new, if_neg (by simp), hget_set, if_pos rfl]
      ·simp only [Heap.new]; omega
      ·intro o a h1 hx ho hltn hB
       have hL := hx.2 (pn + 1 + 1) (by simp only [Heap.new]; omega)
       rw [Heap.get_new, if_pos rfl] at hL
       have G : ∀ id, id < pn → h1.get id = Heap.get ⟨pn, pm⟩ id := fun id hid => by
        rw [hx.2 id (by simp only [Heap.new]; omega), Heap.get_new, if_neg (by simp only; omega), hget_set, if_neg (by omega), hget_set, if_neg (by omega), hget_set, if_neg (by omega)]
        rfl
       have G7 : h1.get pn = some (.var [.int .i64 ↑k]) := by
        rw [hx.2 pn (by simp only [Heap.new]; omega), Heap.get_new, if_neg (by simp only; omega), hget_set, if_neg (by omega), hget_set, if_pos rfl]
       obtain ⟨er, hE, hL⟩ : ∃ er, er = _ ∧ h1.get (pn + 1 + 1) = some (.loop 100 er _ _ _ .ready none) := ⟨_, rfl, hL⟩
       have r2 : er.get 2 = some (.ptr 0 0) := by rw [hE, Mp.get_map]; simp [go_sem, *, noBox]
       have r3 : er.get 3 = some (.ptr 1 0) := by rw [hE, Mp.get_map]; simp [go_sem, *, noBox]
       have r4 : er.get 4 = some (.ptr 2 0) := by rw [hE, Mp.get_map]; simp [go_sem, *, noBox]
       have r5 : er.get 5 = some (.ptr 3 0) := by rw [hE, Mp.get_map]; simp [go_sem, *, noBox]
       have r6 : er.get 6 = some (.ptr 4 0) := by rw [hE, Mp.get_map]; simp [go_sem, *, noBox]
       have r7 : er.get 7 = some (.ptr pn 0) := by rw [hE, Mp.get_map]; simp [go_sem, *, noBox]
       clear hE
       obtain ⟨id, rfl, hrow, hid⟩ : ∃ id, a = .row id 0 ps.length ∧ h1.get id = some (.rw 1 (natsV o)) ∧ id < h1.next := by
        rcases hB with ⟨_, e⟩ | ⟨id, q1, q2, q3, _⟩
        ·have := congrArg List.length e
         rw [natsV_len] at this
         simp at this
         rw [this] at ho
         simp at ho
         omega
        ·exact ⟨id, by rw [natsV_len, ho] at q1; exact q1, q2, q3⟩
       have hidL : id ≠ pn + 1 + 1 := fun e => by rw [e, hL] at hrow; cases hrow
       have v0 := (G 0 (by omega)).trans g0
       have v1 := (G 1 (by omega)).trans g1
       have v2 := (G 2 (by omega)).trans g2
       have v3 := (G 3 (by omega)).trans g3
       have v4 := (G 4 (by omega)).trans g4
       have hid2 : id ≠ 2 := fun e => by rw [e, v2] at hrow; cases hrow
       have hid3 : id ≠ 3 := fun e => by rw [e, v3] at hrow; cases hrow
       have hid4 : id ≠ 4 := fun e => by rw [e, v4] at hrow; cases hrow
       have HHL := Lib.hid hL
       have HHX := Lib.hid hx
       refine round_ok' hL rfl ?_
       clear hL hx G HNO h2 h3 h4 h5 h6 h12
       repeat' (first | refine goS ?_ | refine go2 (fun hh => ?_) (fun hh => ?_) | fail)
       rintro ⟨qn, qm⟩ hqn hqg hqL
       have q0 := (hqg 0 (by omega)).trans v0
       have q1 := (hqg 1 (by omega)).trans v1
       have q2 := (hqg 2 (by omega)).trans v2
       have q3 := (hqg 3 (by omega)).trans v3
       have q4 := (hqg 4 (by omega)).trans v4
       have q7 := (hqg pn (by omega)).trans G7
       have qi := (hqg id hidL).trans hrow
       have HQN := Lib.hid hqn
       have HQG := Lib.hid hqg
       have HQL := Lib.hid hqL
       simp only [hp_get] at q0 q1 q2 q3 q4 q7 qi
       clear hqn hqg hqL v0 v1 v2 v3 v4 G7 hrow
       repeat' (first | refine goS ?_ | refine go2 (fun hh => ?_) (fun hh => ?_) | fail)
       refine W.loopN ps.length (fun i F => ∃ e lm, F = Fr.mk 100 true e lm ⟨qn, qm⟩ [] none ∧ (∀ j, j < i → offB off (turnP (k : Nat) (ps.getD (o.getD j 0) ⟨0, 0⟩)) (hs.getD j ⟨0, 0⟩) = true) ∧ e.get 2 = some (.ptr 0 0) ∧ e.get 3 = some (.ptr 1 0) ∧ e.get 4 = some (.ptr 2 0) ∧ e.get 5 = some (.ptr 3 0) ∧ e.get 6 = some (.ptr 4 0) ∧ e.get 7 = some (.ptr pn 0) ∧
        e.get 8 = some (.row id 0 ps.length) ∧ e.get 20 = some ca ∧ e.get 21 = some (.int .i64 ↑ps.length) ∧ e.get 22 = some (.int .i64 ↑i) ∧ i ≤ ps.length) ?_ ?_
       ·refine ⟨_, _, rfl, fun j hj => absurd hj (by omega), ?_, ?_, ?_, ?_, ?_, ?_, ?_, ?_, ?_, ?_, ?_⟩ <;> first | exact Z2 | simp [go_sem, *]
       clear r2 r3 r4 r5 r6 r7
       rintro i F ⟨e', lm, rfl, hall, h2, h3, h4, h5, h6, h7, h8, h20, h21, h22, hi⟩
       have HALL := Lib.hid hall
       clear hall
       by_cases hil : i < ps.length
       ·obtain ⟨v, hv⟩ := get_some (show i < o.length by omega)
        have hvn : v < ps.length := hltn v (List.mem_of_getElem? hv)
        obtain ⟨p, hp⟩ := get_some hvn
        obtain ⟨q, hq⟩ := get_some (show i < hs.length by rw [HN.out]; exact hil)
        have hio := nat_row (H := ⟨qn, qm⟩) ho hil qi
        have hav := nat_at hv
        have hix := pts_idx HL.out hq
        have hip := pts_idx HR.out hp
        obtain ⟨t, m, hof, HT⟩ := of_turned hin p
        have k96 : ∀ h, Cl (dX cFD) 96 [.int .i64 ↑k] h (.ret (.iface t (.int .i64 m)) h none) := fun h => by
         have := K96 (X := dX cFD) rfl k h
         rw [hof] at this
         exact this
        have hno := fun hh => acc_no (off := off) (t := k) hq hv hp hh
        have hat := off_at (off := off) (t := k) hq hv hp
        generalize turnP (k : Nat) p = pt at *
        have w1 : IntKind.i64.wrap (pt.x - q.x) = w64 (pt.x - q.x) := rfl
        have w2 : IntKind.i64.wrap (pt.y - q.y) = w64 (pt.y - q.y) := rfl
        have hdl : decide ((i : Int) < (ps.length : Int)) = true := by simpa using hil
        have hw := wrap_succ hil (sl_max HR.out)
        have k149 : ∀ h, Cl (dX cFD) 149 [.agg [.int .i64 (w64 (pt.x - q.x)), .int .i64 (w64 (pt.y - q.y))], .int .i64 off] h (.ret (.bool (offB off pt q)) h none) := fun h => K149 rfl ⟨_, _⟩ off h
        generalize w64 (pt.x - q.x) = z1 at *
        generalize w64 (pt.y - q.y) = z2 at *
        have HAT := Lib.hid hat
        have HNO := Lib.hid hno
        have HHO := Lib.hid ho
        clear hv hp hq hof hat hno ho hltn
        cases hoff : offB off pt q with
        | false =>
         rw [hoff] at k149
         have HOFF := Lib.hid hoff
         clear hoff
         repeat' (first | (apply Z7 (o := ⟨some 11, .alloc 38, 0, _, _, none⟩); exact rfl; exact rfl; exact Z1; simp only [pM, pN]) | (apply W.drawQ (id := 9) (l1 := [10, 0, 1, 2, 3, 4, 5, 6, 7, 8, 9]) (l2 := [11]); kernel_rfl; kernel_rfl; kernel_rfl; exact Z4) | refine go1 ?_ | (apply U6; exact Z1; exact Z1; (focus (simp only [List.nil_append, List.append_nil]; first | exact K95 rfl _ _ _ _ HT _ | exact k96 _ | exact k149 _)); simp only [pM, pN, rR, rP]) | refine go2 (fun hh => ?_) (fun hh => ?_) | fail)
         rw [roundQ_norm]
         simp only [endV, HQL.out]
         refine seaR_no ?_ (hext_back HQN.out HQG.out HHL.out)
         rw [if_neg]
         rw [HNO.out HOFF.out]
         simp
        | true =>
         rw [hoff] at k149
         have HOFF := Lib.hid hoff
         clear hoff
         repeat' (first | (apply Z7 (o := ⟨some 11, .alloc 38, 0, _, _, none⟩); exact rfl; exact rfl; exact Z1; simp only [pM, pN]) | (apply W.drawQ (id := 9) (l1 := [10, 0, 1, 2, 3, 4, 5, 6, 7, 8, 9]) (l2 := [11]); kernel_rfl; kernel_rfl; kernel_rfl; exact Z4) | refine go1 ?_ | (apply U6; exact Z1; exact Z1; (focus (simp only [List.nil_append, List.append_nil]; first | exact K95 rfl _ _ _ _ HT _ | exact k96 _ | exact k149 _)); simp only [pM, pN, rR, rP]) | refine go2 (fun hh => ?_) (fun hh => ?_) | fail)
         refine ⟨hil, _, _, rfl, fun j hj => ?_, ?_, ?_, ?_, ?_, ?_, ?_, ?_, ?_, ?_, ?_, by omega⟩
         ·rcases Nat.lt_or_ge j i with q | q
          ·exact HALL.out j q
          ·obtain rfl : j = i := by omega
           rw [HAT.out]; exact HOFF.out
         all_goals exact Z2
       ·have hdl : decide ((i : Int) < (ps.length : Int)) = false := by simpa using hil
        have hii : i = ps.length := by omega
        have hacc : accB off hs ps k o = true := by
         refine all_yes fun j hj => HALL.out j ?_
         rw [HN.out] at hj
         omega
        have HA := Lib.hid hacc
        have HHO := Lib.hid ho
        subst hii
        clear hacc ho hltn
        repeat' (first | refine goS ?_ | refine go2 (fun hh => ?_) (fun hh => ?_) | fail)
        rw [roundQ_ret]
        have eL := HQL.out
        simp only [hp_get] at eL
        have x2 : ((qm.set 2 (.var [.int .i64 ↑k])).set 3 (.var [.row id 0 ps.length])).set 4 (.var [.bool true]) = ((qm.set 2 (.var [.int .i64 ↑k])).set 3 (.var [.row id 0 ps.length])).set 4 (.var [.bool true]) := rfl
        clear x2
        simp only [endV, hp_get, Mp.get_set, if_neg (show ¬ 4 = pn + 1 + 1 by omega), if_neg (show ¬ 3 = pn + 1 + 1 by omega), if_neg (show ¬ 2 = pn + 1 + 1 by omega), eL, hp_put]
        refine seaR_yes (if_pos HA.out) ?_
        apply took_of (id := id)
        ·rw [hp_get, Mp.get_set, if_neg (by omega), Mp.get_set, if_neg (by omega), Mp.get_set, if_neg (by omega), Mp.get_set, if_pos rfl]
        ·rw [hp_get, Mp.get_set, if_neg (by omega), Mp.get_set, if_neg (by omega), Mp.get_set, if_pos rfl]
        ·rw [hp_get, Mp.get_set, if_neg (by omega), Mp.get_set, if_pos rfl]
        ·rw [hp_get, Mp.get_set, if_neg hidL.symm, Mp.get_set, if_neg hid4.symm, Mp.get_set, if_neg hid3.symm, Mp.get_set, if_neg hid2.symm, qi]
        ·exact hidL
        ·rw [hp_get, Mp.get_set, if_pos rfl]
     ·intro r hcl hR
      obtain ⟨h', ⟨ex, rfl, kx⟩ | ⟨o, ex, rfl, kx⟩⟩ := hR
      ·have hL := kx.2 (pn + 1 + 1) (by simp only [Heap.new]; omega)
       rw [Heap.get_new, if_pos rfl] at hL
       have hnx : pn + 1 + 1 + 1 ≤ h'.next := kx.1
       have G : ∀ id, id < pn → h'.get id = Heap.get ⟨pn, pm⟩ id := fun id hid => by
        rw [kx.2 id (by simp only [Heap.new]; omega), Heap.get_new, if_neg (by simp only; omega), hget_set, if_neg (by omega), hget_set, if_neg (by omega), hget_set, if_neg (by omega)]
        rfl
       refine W.rangeNorm rfl ?_ hcl hL (fun e => by cases e) ?_
       ·first | exact Z2 | exact Z1
       clear hcl hL
       generalize hput : Heap.put h' _ _ = hz
       have GZ : ∀ id, id < pn → hz.get id = Heap.get ⟨pn, pm⟩ id := fun id hid => by
        rw [← hput, Heap.get_put, if_neg (by simp only; omega)]
        exact G id hid
       have hzn : 5 ≤ hz.next := by
        rw [← hput]
        show 5 ≤ h'.next
        omega
       have HGZ := Lib.hid GZ
       have EX := Lib.hid ex
       clear hput G kx ex GZ
       simp only [bN, tN]
       repeat' (first | (refine W.label ?_; simp only [tN, bN, eN, true_and]) | refine go1 ?_ | refine go2 (fun hh => ?_) (fun hh => ?_) | fail)
       refine ⟨hlt, _, hz, rfl, hzn, (HGZ.out 0 (by omega)).trans g0, (HGZ.out 1 (by omega)).trans g1, (HGZ.out 2 (by omega)).trans g2, (HGZ.out 3 (by omega)).trans g3, (HGZ.out 4 (by omega)).trans g4, fun j hj => ?_, ?_, ?_, ?_, ?_, ?_, ?_, by omega⟩
       ·rcases Nat.lt_or_ge j k with q | q
        ·exact HNO.out j q
        ·obtain rfl : j = k := by omega
         exact EX.out
       all_goals exact Z2
      ·obtain ⟨id, f, e1, ps1, a1, b1, k2, k3, k4, ki, kn, kL⟩ := kx
       refine W.rangeRet rfl ?_ hcl kL (fun e => by cases e) ?_
       ·first | exact Z2 | exact Z1
       clear hcl
       generalize hput : Heap.put h' _ _ = hz
       have GZ : ∀ id, id ≠ pn + 1 + 1 → hz.get id = h'.get id := fun id hid => by
        rw [← hput, Heap.get_put, if_neg (fun e => hid e.symm)]
       have k2 := (GZ 2 (by omega)).trans k2
       have k3 := (GZ 3 (by omega)).trans k3
       have k4 := (GZ 4 (by omega)).trans k4
       have ki := (GZ id kn).trans ki
       have EX := Lib.hid ex
       have hon : o.length = ps.length := by
        have := srch_len _ _ _ ex
        simpa using this
       have hs2 : matchS off hs ps = some (k, o) := find_some (fun j hj => by rw [HNO.out j hj]; rfl) (by rw [ex]; rfl) hlt
       have hfz : frz2 hz (.row id 0 ps.length) = some (slN (natsV o), hz.del id) := by
        have e1 : ps.length ≤ (natsV o).length := by rw [natsV_len]; omega
        have e2 : (natsV o).take ps.length = natsV o := List.take_of_length_le (by rw [natsV_len]; omega)
        have e3 : slN (natsV o) = .vslice (natsV o) := by
         cases o with
         | nil => simp at hon; omega
         | cons x o => rfl
        simp only [frz2, frz1, ki, Nat.zero_add, e1, if_true, List.drop_zero, e2, e3]
       have HS2 := Lib.hid hs2
       clear hput GZ kL ex hs2 ki hon
       simp only [tR, bR, eR, true_and]
       (simp only [resV_def (X := dX cFD) Tryz.func100, Tryz.results100]; first | exact J5 | refine J6 ?_)
       rw [← HRES.out, HS2.out]
       rfl
    ·have hd : decide ((k : Int) < 8) = false := by simp; omega
     have hk8 : k = 8 := by omega
     subst hk8
     clear hlt
     simp only [hp_get] at g0 g1 g2 g3 g4
     repeat' (first | refine goS ?_ | refine go2 (fun hh => ?_) (fun hh => ?_) | fail)
     all_goals (simp only [resV_def (X := dX cFD) Tryz.func100, Tryz.results100]; first | exact J5 | refine J6 ?_)
     have hs2 : matchS off hs ps = none := find_none fun j hj => by rw [HNO.out j hj]; rfl
     rw [← HRES.out, hs2]
     rfl
   ·cases h
  ·cases h
 ·cases h
end Go.AM
namespace Go.AM
open Go Go.Proofs
variable [Keep]
attribute [local irreducible] W WO WO1 WD WQ WT thenQ blockQ endR isRet retK Cl ClR
theorem allB_P (l : List Pt) (least far : Int) : allB l least far = pointsB l least 4 far := by
 unfold allB pointsB
 rw [Bool.and_comm]
 congr 1
 rw [List.not_any_eq_all_not]
 congr 1
 funext p
 simp
def sp31 : List AV → Option AV
 | [.agg [a, .int .i64 off]] => (slV ptC a).map fun l => .bool (measB l off)
 | _ => none
theorem p31 : ∀ args v, sp31 args = some v → v.pur = true := by
 intro args v h
 unfold sp31 at h
 split at h
 ·simp only [Option.map_eq_some_iff] at h; obtain ⟨l, _, rfl⟩ := h; rfl
 ·cases h
noncomputable def cGD : FuncId → Option (List AV → Heap → Option (AV × Heap))
 | 28 => some (flatFn sp28)
 | 97 => some (pureFn sp97)
 | _ => none
theorem cGD_sound : Sound (dX cGD) := dX_sound (fun f g h => by
 unfold cGD at h
 split at h
 ·cases h; exact F28
 ·cases h; exact F97
 ·cases h)
set_option maxHeartbeats 2000000 in
theorem F31 : IntrFn Tryz.prog 31 (pureFn sp31) := by
 refine pure_fn (X := dX cGD) cGD_sound p31 ?_
 intro args v h
 unfold sp31 at h
 split at h
 ·rename_i a off
  simp only [Option.map_eq_some_iff] at h
  obtain ⟨l, ha, rfl⟩ := h
  have hlen := sl_len ha
  have hout := sl_out ha
  have hmax := sl_max ha
  have HA := Lib.hid ha
  have k97 : ∀ h, Cl (dX cGD) 97 [.int .i64 off, .int .i64 0, .int .i64 6] h (.ret (.bool (inB off 0 6)) h none) := fun h => K97 rfl off 0 6 h
  have k28 : ∀ h, Cl (dX cGD) 28 [a, .int .i64 2, .int .i64 4, .int .i64 20] h (.ret (.bool (allB l 2 20)) h none) := fun h => by
   rw [allB_P]
   exact K28 rfl a l 2 4 20 ha h
  have HM := Lib.hid (show measB l off = (noTwin l && allB l 2 20 && inB off 0 6) from rfl)
  generalize measB l off = mb at *
  clear ha
  refine ClR.walk (c := _) rfl Tryz.func31 rfl (by kernel_rfl) rfl isRet_fail ?_
  simp only [entryEnv, Nat.reduceAdd, emptyHp]
  repeat' (first | refine goS ?_ | refine go2 (fun hh => ?_) (fun hh => ?_) | fail)
  refine W.loopN l.length (fun i F => ∃ e lm, F = Fr.mk 31 false e lm ⟨0, .nil⟩ [] none ∧ (∀ j, j < i → ((List.range j).all fun k => !ptEq (l.getD j ⟨0, 0⟩) (l.getD k ⟨0, 0⟩)) = true) ∧ lm.get 1 = some (0, [a, .int .i64 off]) ∧ e.get 1 = some (.lptr 1 0 0) ∧ e.get 3 = some (.int .i64 ↑i) ∧ i ≤ l.length) ?_ ?_
  ·refine ⟨_, _, rfl, fun j hj => absurd hj (by omega), ?_, ?_, ?_, ?_⟩ <;> first | exact Z2 | simp [go_sem, *]
  rintro i F ⟨e, lm, rfl, hall, m1, h1, h3, hi⟩
  have HALL := Lib.hid hall
  clear hall
  by_cases hlt : i < l.length
  ·have hd : decide ((i : Int) < (l.length : Int)) = true := by simpa using hlt
   have hw := wrap_succ hlt hmax
   obtain ⟨p, hp⟩ := get_some hlt
   have hgp : l.getD i ⟨0, 0⟩ = p := by simp [List.getD, hp]
   have hix := pts_idx HA.out hp
   have HP := Lib.hid hgp
   clear hgp hp
   repeat' (first | refine goS ?_ | refine go2 (fun hh => ?_) (fun hh => ?_) | fail)
   refine W.loopN i (fun k F => ∃ e lm, F = Fr.mk 31 false e lm ⟨0, .nil⟩ [] none ∧ (∀ j, j < k → (!ptEq p (l.getD j ⟨0, 0⟩)) = true) ∧ lm.get 1 = some (0, [a, .int .i64 off]) ∧ e.get 1 = some (.lptr 1 0 0) ∧ e.get 3 = some (.int .i64 ↑i) ∧ e.get 4 = some (.int .i64 ↑k) ∧ k ≤ i) ?_ ?_
   ·refine ⟨_, _, rfl, fun j hj => absurd hj (by omega), ?_, ?_, ?_, ?_, ?_⟩ <;> first | exact Z2 | simp [go_sem, *]
   clear m1 h1 h3 hd
   rintro k F ⟨e, lm, rfl, hal2, m1, h1, h3, h4, hk⟩
   have HAL2 := Lib.hid hal2
   clear hal2
   by_cases hki : k < i
   ·have hd : decide ((k : Int) < (i : Int)) = true := by simpa using hki
    have hw2 := wrap_succ (m := i) hki (by omega)
    obtain ⟨q, hq⟩ := get_some (show k < l.length by omega)
    have hiy := pts_idx HA.out hq
    have hgq : l.getD k ⟨0, 0⟩ = q := by simp [List.getD, hq]
    have he := eqA38 p.x p.y q.x q.y
    have hpe : (p.x == q.x && p.y == q.y) = ptEq p q := rfl
    rw [hpe] at he
    have HQ := Lib.hid hgq
    clear hpe hgq hq
    cases hpq : ptEq p q with
    | true =>
     rw [hpq] at he
     have HPQ := Lib.hid hpq
     clear hpq
     repeat' (first | (apply W.drawQ (id := 7) (l1 := [0, 1, 2, 3, 4, 5, 6, 7, 8, 9, 10]) (l2 := []); kernel_rfl; kernel_rfl; kernel_rfl; exact Z4) | refine go1 ?_ | refine go2 (fun hh => ?_) (fun hh => ?_) | fail)
     all_goals (simp only [resV_def (X := dX cGD) Tryz.func31, Tryz.results31]; first | exact J5 | refine J6 ?_)
     rw [HM.out, twin_no hlt (by
      rw [HP.out]
      exact all_not hki (by rw [HQ.out, HPQ.out]; rfl))]
     rfl
    | false =>
     rw [hpq] at he
     have HPQ := Lib.hid hpq
     clear hpq
     repeat' (first | (apply W.drawQ (id := 7) (l1 := [0, 1, 2, 3, 4, 5, 6, 7, 8, 9, 10]) (l2 := []); kernel_rfl; kernel_rfl; kernel_rfl; exact Z4) | refine go1 ?_ | refine go2 (fun hh => ?_) (fun hh => ?_) | fail)
     refine ⟨hki, _, _, rfl, fun j hj => ?_, ?_, ?_, ?_, ?_, by omega⟩
     ·rcases Nat.lt_or_ge j k with q | q
      ·exact HAL2.out j q
      ·obtain rfl : j = k := by omega
       rw [HQ.out, HPQ.out]; rfl
     all_goals exact Z2
   ·have hd : decide ((k : Int) < (i : Int)) = false := by simpa using hki
    have HIK := Lib.hid (show i ≤ k by omega)
    clear hki hk
    repeat' (first | refine goS ?_ | refine go2 (fun hh => ?_) (fun hh => ?_) | fail)
    refine ⟨hlt, _, _, rfl, fun j hj => ?_, ?_, ?_, ?_, by omega⟩
    ·rcases Nat.lt_or_ge j i with q | q
     ·exact HALL.out j q
     ·obtain rfl : j = i := by omega
      rw [HP.out]
      exact all_yes fun m hm => HAL2.out m (by have := HIK.out; omega)
    all_goals exact Z2
  ·have hd : decide ((i : Int) < (l.length : Int)) = false := by simpa using hlt
   have hil : i = l.length := by omega
   have HT := Lib.hid (twin_yes (l := l) (fun j hj => HALL.out j (by omega)))
   clear hil
   generalize allB l 2 20 = b1 at *
   generalize inB off 0 6 = b2 at *
   cases b1 <;> cases b2
   all_goals (
    repeat' (first | refine goS ?_ | (apply U6; exact Z1; exact Z1; (focus (simp only [List.nil_append, List.append_nil]; first | exact k28 _ | exact k97 _)); simp only [pM, pN, rR, rP]) | refine go2 (fun hh => ?_) (fun hh => ?_) | fail)
    all_goals (simp only [resV_def (X := dX cGD) Tryz.func31, Tryz.results31]; first | exact J5 | refine J6 ?_)
    all_goals (rw [HM.out, HT.out]; rfl))
 ·cases h
def matchR : Option (Nat × List Nat) → AV
 | some (t, o) => .tuple [.int .i64 (t : Int), slN (natsV o), .int .i64 0]
 | none => .tuple [.int .i64 0, .nilslice, .int .i64 5]
def matchOk (hs ps : List Pt) (off : Int) : Bool := measB hs off && decide (hs.length = ps.length) && allB ps 2 80
def matchF (hs ps : List Pt) (off : Int) : AV := if matchOk hs ps off then matchR (matchS off hs ps) else .tuple [.int .i64 0, .nilslice, .int .i64 2]
def sp34 : List AV → Option AV
 | [.agg [ca, .int .i64 off], la] => match slV ptC ca, slV ptC la with
  | some hs, some ps => some (matchF hs ps off)
  | _, _ => none
 | _ => none
theorem slN_nats (o : List Nat) : outV (some (slN (natsV o))) = some (slN (natsV o)) ∧ isTuple (slN (natsV o)) = false ∧ ∀ hp : Heap, frz2 hp (slN (natsV o)) = some (slN (natsV o), hp) := ⟨(slN_is _).out, (slN_is _).tup, (slN_is _).frz2⟩
end Go.AM
namespace Go.AM
open Go
def lexB : List Nat → List Nat → Bool
 | [], b => !b.isEmpty
 | a :: l, b :: r => if a = b then lexB l r else decide (a < b)
 | _ :: _, [] => false
theorem lexB_pre : ∀ (p x y : List Nat), lexB (p ++ x) (p ++ y) = lexB x y := by
 intro p
 induction p with
 | nil => intro x y; rfl
 | cons a p ih => intro x y; simp only [List.cons_append, lexB, if_true, ih]
structure IsOrd (n : Nat) (o : List Nat) : Prop where
 len : o.length = n
 lt : ∀ k ∈ o, k < n
 nd : o.Nodup
theorem find_spec {α : Type} {f : Nat → Option α} {o : α} : ∀ {n : Nat}, (List.range n).findSome? f = some o → ∃ i, i < n ∧ f i = some o ∧ ∀ j, j < i → f j = none := by
 intro n
 induction n with
 | zero => intro h; simp at h
 | succ n ih =>
  intro h
  rw [List.range_succ, List.findSome?_append] at h
  cases h1 : (List.range n).findSome? f with
  | some x =>
   rw [h1] at h
   simp only [Option.some_or, Option.some.injEq] at h
   subst h
   obtain ⟨i, q1, q2, q3⟩ := ih h1
   exact ⟨i, by omega, q2, q3⟩
  | none =>
   rw [h1] at h
   refine ⟨n, by omega, by simpa using h, fun j hj => ?_⟩
   exact List.findSome?_eq_none_iff.1 h1 j (by simpa using hj)
section
variable {n : Nat} {acc : List Nat → Bool}
theorem srch_none : ∀ (d : Nat) (p : List Nat), srch n acc d p = none → p.length + d = n → ∀ s, IsOrd n (p ++ s) → acc (p ++ s) = false := by
 intro d
 induction d with
 | zero =>
  intro p h hl s hs
  have : s = [] := by
   have := hs.len
   simp at this
   exact List.eq_nil_of_length_eq_zero (by omega)
  subst this
  simp only [srch] at h
  rw [List.append_nil]
  cases ha : acc p with
  | false => rfl
  | true => rw [ha] at h; simp at h
 | succ d ih =>
  intro p h hl s hs
  cases s with
  | nil => have := hs.len; simp at this; omega
  | cons i s =>
   simp only [srch] at h
   have hi : i < n := hs.lt i (by simp)
   have h1 := List.findSome?_eq_none_iff.1 h i (by simpa using hi)
   have hc : ¬ p.contains i = true := by
    intro e
    have hm : i ∈ p := by simpa using e
    have := hs.nd
    rw [List.nodup_append] at this
    exact this.2.2 i hm i (by simp) rfl
   rw [if_neg hc] at h1
   have := ih (p ++ [i]) h1 (by simp; omega) s (by simpa using hs)
   simpa using this
theorem srch_some : ∀ (d : Nat) (p o : List Nat), srch n acc d p = some o → p.Nodup → (∀ k ∈ p, k < n) → p.length + d = n → IsOrd n o ∧ acc o = true ∧ ∃ s, o = p ++ s := by
 intro d
 induction d with
 | zero =>
  intro p o h hn hlt hl
  simp only [srch] at h
  split at h
  ·rename_i ha
   cases h
   exact ⟨⟨by omega, hlt, hn⟩, ha, [], by simp⟩
  ·cases h
 | succ d ih =>
  intro p o h hn hlt hl
  simp only [srch] at h
  obtain ⟨i, hi, h1, _⟩ := find_spec h
  split at h1
  ·cases h1
  ·rename_i hc
   have hm : i ∉ p := by simpa using hc
   obtain ⟨q1, q2, s, q3⟩ := ih (p ++ [i]) o h1 (by
    rw [List.nodup_append]
    exact ⟨hn, by simp, fun a hq b hb e => by simp at hb; subst hb; subst e; exact hm hq⟩) (fun k hk => by
    rcases List.mem_append.1 hk with q | q
    ·exact hlt k q
    ·simp at q; omega) (by simp; omega)
   exact ⟨q1, q2, i :: s, by simpa using q3⟩
theorem srch_first : ∀ (d : Nat) (p o : List Nat), srch n acc d p = some o → p.Nodup → (∀ k ∈ p, k < n) → p.length + d = n → ∀ s, IsOrd n (p ++ s) → acc (p ++ s) = true → lexB (p ++ s) o = false := by
 intro d
 induction d with
 | zero =>
  intro p o h hn hlt hl s hs ha
  have : s = [] := by
   have := hs.len
   simp at this
   exact List.eq_nil_of_length_eq_zero (by omega)
  subst this
  simp only [srch] at h
  rw [List.append_nil] at ha ⊢
  rw [if_pos ha] at h
  cases h
  have := lexB_pre p [] []
  simp only [List.append_nil] at this
  rw [this]
  rfl
 | succ d ih =>
  intro p o h hn hlt hl s hs ha
  cases s with
  | nil => have := hs.len; simp at this; omega
  | cons i s =>
   simp only [srch] at h
   obtain ⟨k, hk, h1, h2⟩ := find_spec h
   have hi : i < n := hs.lt i (by simp)
   have hc : ¬ p.contains i = true := by
    intro e
    have hm : i ∈ p := by simpa using e
    have := hs.nd
    rw [List.nodup_append] at this
    exact this.2.2 i hm i (by simp) rfl
   have hcat : p ++ i :: s = (p ++ [i]) ++ s := by simp
   rcases Nat.lt_trichotomy i k with q | q | q
   ·have h3 := h2 i q
    rw [if_neg hc] at h3
    have := srch_none d (p ++ [i]) h3 (by simp; omega) s (by rw [← hcat]; exact hs)
    rw [← hcat, ha] at this
    cases this
   ·subst q
    rw [if_neg hc] at h1
    have hm : i ∉ p := by simpa using hc
    have := ih (p ++ [i]) o h1 (by
     rw [List.nodup_append]
     exact ⟨hn, by simp, fun a hq b hb e => by simp at hb; subst hb; subst e; exact hm hq⟩) (fun k hk => by
     rcases List.mem_append.1 hk with q | q
     ·exact hlt k q
     ·simp at q; omega) (by simp; omega) s (by rw [← hcat]; exact hs) (by rw [← hcat]; exact ha)
    rw [hcat]
    exact this
   ·split at h1
    ·cases h1
    ·rename_i hck
     have hm : k ∉ p := by simpa using hck
     obtain ⟨_, _, t, ht⟩ := srch_some d (p ++ [k]) o h1 (by
      rw [List.nodup_append]
      exact ⟨hn, by simp, fun a hq b hb e => by simp at hb; subst hb; subst e; exact hm hq⟩) (fun j hj => by
      rcases List.mem_append.1 hj with q | q
      ·exact hlt j q
      ·simp at q; omega) (by simp; omega)
     rw [ht, List.append_assoc, lexB_pre]
     simp only [List.cons_append, List.nil_append, lexB]
     rw [if_neg (by omega)]
     simp
     omega
end
theorem match_none {off : Int} {hs ps : List Pt} (h : matchS off hs ps = none) {t : Nat} (ht : t < 8) {o : List Nat} (ho : IsOrd ps.length o) : accB off hs ps t o = false := by
 have h1 := List.findSome?_eq_none_iff.1 h t (by simpa using ht)
 have h2 : srch ps.length (accB off hs ps t) ps.length [] = none := by simpa using h1
 have := srch_none ps.length [] h2 (by simp) o (by simpa using ho)
 simpa using this
theorem match_some {off : Int} {hs ps : List Pt} {t : Nat} {o : List Nat} (h : matchS off hs ps = some (t, o)) : t < 8 ∧ IsOrd ps.length o ∧ accB off hs ps t o = true ∧
  ∀ (u : Nat) (r : List Nat), u < 8 → IsOrd ps.length r → accB off hs ps u r = true → t < u ∨ t = u ∧ lexB r o = false := by
 obtain ⟨i, hi, h1, h2⟩ := find_spec h
 simp only [Option.map_eq_some_iff, Prod.mk.injEq] at h1
 obtain ⟨o', h1, rfl, rfl⟩ := h1
 obtain ⟨q1, q2, _⟩ := srch_some ps.length [] o' h1 (by simp) (by simp) (by simp)
 refine ⟨hi, q1, q2, fun u r hu hr ha => ?_⟩
 rcases Nat.lt_trichotomy u i with q | q | q
 ·have h3 := h2 u q
  have h4 : srch ps.length (accB off hs ps u) ps.length [] = none := by simpa using h3
  have := srch_none ps.length [] h4 (by simp) r (by simpa using hr)
  rw [List.nil_append, ha] at this
  cases this
 ·subst q
  refine .inr ⟨rfl, ?_⟩
  have := srch_first ps.length [] o' h1 (by simp) (by simp) (by simp) r (by simpa using hr) (by simpa using ha)
  simpa using this
 ·exact .inl q
end Go.AM
namespace Go.AM
open Go
variable [Keep]
theorem ok80 {p : Pt} : okPt 80 p = true ↔ (-80 ≤ p.x ∧ p.x ≤ 80) ∧ (-80 ≤ p.y ∧ p.y ≤ 80) := by
 have : w64 (-80) = -80 := rfl
 simp only [okPt, inB, this, Bool.and_eq_true, decide_eq_true_eq]
def lin (t : Nat) (p : Pt) : Pt :=
 match t with
 | 0 => p
 | 1 => ⟨-p.y, p.x⟩
 | 2 => ⟨-p.x, -p.y⟩
 | 3 => ⟨p.y, -p.x⟩
 | 4 => ⟨-p.x, p.y⟩
 | 5 => ⟨-p.y, -p.x⟩
 | 6 => ⟨p.x, -p.y⟩
 | _ => ⟨p.y, p.x⟩
theorem lt8 {t : Nat} (h : t < 8) : t = 0 ∨ t = 1 ∨ t = 2 ∨ t = 3 ∨ t = 4 ∨ t = 5 ∨ t = 6 ∨ t = 7 := by omega
theorem turn_lin {t : Nat} (ht : t < 8) {p : Pt} (hp : okPt 80 p = true) : turnP (t : Int) p = lin t p := by
 obtain ⟨x, y⟩ := p
 rw [ok80] at hp
 simp only at hp
 have e1 : w64 (-x) = -x := wrap_small (by omega) (by omega)
 have e2 : w64 (-y) = -y := wrap_small (by omega) (by omega)
 have e3 : w64 x = x := wrap_small (by omega) (by omega)
 have e4 : w64 y = y := wrap_small (by omega) (by omega)
 have c0 : w64 0 = 0 := rfl
 have c1 : w64 1 = 1 := rfl
 have c2 : w64 2 = 2 := rfl
 have c3 : w64 3 = 3 := rfl
 rcases lt8 ht with rfl | rfl | rfl | rfl | rfl | rfl | rfl | rfl <;> simp [turnP, lin, iter, quarter, flipX, e1, e2, e3, e4, c0, c1, c2, c3]
theorem lin_ok {t : Nat} (ht : t < 8) {p : Pt} (hp : okPt 80 p = true) : okPt 80 (lin t p) = true := by
 rw [ok80] at hp ⊢
 rcases lt8 ht with rfl | rfl | rfl | rfl | rfl | rfl | rfl | rfl <;> simp only [lin] <;> omega
def after (s t : Nat) : Nat := if s / 4 = t / 4 then (t + 4 - s % 4) % 4 else 4 + (s + t) % 4
def farS (p q : Pt) : Int := w64 (w64 (w64 (p.x - q.x) * w64 (p.x - q.x)) + w64 (w64 (p.y - q.y) * w64 (p.y - q.y)))
def againS (turn : Int) : Nat → List Pt → Option (List Pt)
 | 0, l => some l
 | k + 1, l => if inB turn 0 7 && allB l 0 80 then (if pointsB (l.map (turnP turn)) l.length l.length 80 then againS turn k (l.map (turnP turn)) else none) else none
theorem match_iff {off : Int} {hs ps : List Pt} : (matchS off hs ps).isSome = true ↔ ∃ (t : Nat) (o : List Nat), t < 8 ∧ IsOrd ps.length o ∧ accB off hs ps (t : Nat) o = true := by
 constructor
 ·intro h
  cases hm : matchS off hs ps with
  | none => rw [hm] at h; cases h
  | some m =>
   obtain ⟨t, o⟩ := m
   obtain ⟨h1, h2, h3, _⟩ := match_some hm
   exact ⟨t, o, h1, h2, h3⟩
 ·rintro ⟨t, o, h1, h2, h3⟩
  cases hm : matchS off hs ps with
  | none =>
   have := match_none hm h1 h2
   rw [h3] at this
   cases this
  | some m => rfl
end Go.AM
namespace Go.AM
open Go Go.Proofs
variable [Keep]
attribute [local irreducible] W WO WO1 WD WQ WT thenQ blockQ endR isRet retK Cl ClR
attribute [local irreducible] farS
def sp33 : List AV → Option AV
 | [.agg [.int .i64 x, .int .i64 y], .agg [.int .i64 a, .int .i64 b]] => some (.int .i64 (farS ⟨x, y⟩ ⟨a, b⟩))
 | _ => none
def againV : Option (List Pt) → AV
 | some l => slN (l.map ptC.enc)
 | none => .nilslice
def sp32 : List AV → Option AV
 | [a, .int .i64 turn, .int .i64 times] => match slV ptC a with
  | some l => if inB times 1 4 = true then some (againV (againS turn times.toNat l)) else none
  | none => none
 | _ => none
attribute [local irreducible] againS
end Go.AM
namespace Go.AM
open Go Go.Proofs
variable [Keep]
attribute [local irreducible] W WO WO1 WD WQ WT thenQ blockQ endR isRet retK Cl ClR
def befB : List Int → List Int → Bool
 | [], r => !r.isEmpty
 | _ :: _, [] => false
 | a :: l, b :: r => if a = b then befB l r else decide (a < b)
theorem bef_step {l r : List Int} {i : Nat} {a b : Int} (ha : l[i]? = some a) (hb : r[i]? = some b) : befB (l.drop i) (r.drop i) = if a = b then befB (l.drop (i + 1)) (r.drop (i + 1)) else decide (a < b) := by
 have h1 : i < l.length := by
  rcases Nat.lt_or_ge i l.length with h' | h'
  ·exact h'
  ·rw [List.getElem?_eq_none h'] at ha; cases ha
 have h2 : i < r.length := by
  rcases Nat.lt_or_ge i r.length with h' | h'
  ·exact h'
  ·rw [List.getElem?_eq_none h'] at hb; cases hb
 rw [List.drop_eq_getElem_cons h1, List.drop_eq_getElem_cons h2]
 rw [List.getElem?_eq_getElem h1] at ha
 rw [List.getElem?_eq_getElem h2] at hb
 rw [Option.some.inj ha, Option.some.inj hb]
 rfl
theorem bef_end {l r : List Int} {i : Nat} (hi : i ≤ l.length) (hj : i ≤ r.length) (he : ¬ (i < l.length ∧ i < r.length)) : befB (l.drop i) (r.drop i) = decide ((l.length : Int) < (r.length : Int)) := by
 by_cases h1 : i < l.length
 ·have h2 : i = r.length := by omega
  rw [h2, List.drop_length, List.drop_eq_getElem_cons (by omega)]
  show false = _
  symm
  simp
  omega
 ·have h2 : i = l.length := by omega
  rw [h2, List.drop_length]
  show (!(r.drop l.length).isEmpty) = _
  rw [Bool.eq_iff_iff]
  simp
def sp37 : List AV → Option AV
 | [a, b] => match slV intC a, slV intC b with
  | some l, some r => some (.bool (befB l r))
  | _, _ => none
 | _ => none
theorem p37 : ∀ args v, sp37 args = some v → v.pur = true := by
 intro args v h
 unfold sp37 at h
 split at h
 ·split at h
  ·cases h; rfl
  ·cases h
 ·cases h
attribute [local irreducible] befB
set_option maxHeartbeats 2000000 in
theorem F37 : IntrFn Tryz.prog 37 (pureFn sp37) := by
 refine pure_fn (X := dX cGA) cGA_sound p37 ?_
 intro args v h
 unfold sp37 at h
 split at h
 ·rename_i a b
  split at h
  ·rename_i l r ha hb
   have h := Option.some.inj h
   subst h
   have ol := sl_out ha
   have orr := sl_out hb
   have ll := sl_len ha
   have lr := sl_len hb
   have ml := sl_max ha
   have HA := Lib.hid ha
   have HB := Lib.hid hb
   generalize hres : befB l r = res
   have HR := Lib.hid hres
   clear hres ha hb
   refine ClR.walk (c := _) rfl Tryz.func37 rfl (by kernel_rfl) rfl isRet_fail ?_
   simp only [entryEnv, Nat.reduceAdd, emptyHp]
   repeat' (first | refine goS ?_ | refine go2 (fun hh => ?_) (fun hh => ?_) | fail)
   refine W.loopN (min l.length r.length) (fun i F => ∃ e, F = Fr.mk 37 false e .nil ⟨0, .nil⟩ [] none ∧ befB (l.drop i) (r.drop i) = res ∧ e.get 0 = some a ∧ e.get 1 = some b ∧ e.get 5 = some (.int .i64 ↑i) ∧ i ≤ min l.length r.length) ?_ ?_
   ·refine ⟨_, rfl, HR.out, ?_, ?_, ?_, ?_⟩ <;> first | exact Z2 | simp [go_sem, *]
   rintro i F ⟨e, rfl, hbf, h0, h1, h5, hi⟩
   have HBF := Lib.hid hbf
   clear hbf
   have hi2 : i ≤ l.length ∧ i ≤ r.length := by omega
   have HI := Lib.hid hi2
   clear hi hi2
   by_cases hl : i < l.length
   ·have hd : decide ((i : Int) < (l.length : Int)) = true := by simpa using hl
    by_cases hr : i < r.length
    ·have hd2 : decide ((i : Int) < (r.length : Int)) = true := by simpa using hr
     have hw := wrap_succ hl ml
     obtain ⟨x, hx⟩ := get_some hl
     obtain ⟨y, hy⟩ := get_some hr
     have hix := int_idx HA.out hx
     have hiy := int_idx HB.out hy
     have hst := bef_step hx hy
     have HST := Lib.hid hst
     have HLT := Lib.hid (show i < min l.length r.length by omega)
     clear hx hy hst hl hr
     by_cases hxy : x = y
     ·have hb1 : (x != y) = false := by simp [hxy]
      have HXY := Lib.hid hxy
      clear hxy
      repeat' (first | (apply W.drawQ (id := 4) (l1 := [0, 1, 2, 3, 4, 5, 6, 7, 8]) (l2 := []); kernel_rfl; kernel_rfl; kernel_rfl; exact Z4) | (apply W.drawQ (id := 5) (l1 := [0, 1, 2, 3, 4, 5, 6, 7, 8, 9]) (l2 := []); kernel_rfl; kernel_rfl; kernel_rfl; exact Z4) | refine go1 ?_ | refine go2 (fun hh => ?_) (fun hh => ?_) | fail)
      refine ⟨HLT.out, _, rfl, ?_, ?_, ?_, ?_, ?_⟩
      ·rw [← HBF.out, HST.out, if_pos HXY.out]
      all_goals first | exact Z2 | (have := HLT.out; omega)
     ·have hb1 : (x != y) = true := by simp [hxy]
      have HXY := Lib.hid hxy
      clear hxy
      repeat' (first | (apply W.drawQ (id := 4) (l1 := [0, 1, 2, 3, 4, 5, 6, 7, 8]) (l2 := []); kernel_rfl; kernel_rfl; kernel_rfl; exact Z4) | (apply W.drawQ (id := 5) (l1 := [0, 1, 2, 3, 4, 5, 6, 7, 8, 9]) (l2 := []); kernel_rfl; kernel_rfl; kernel_rfl; exact Z4) | refine go1 ?_ | refine go2 (fun hh => ?_) (fun hh => ?_) | fail)
      all_goals (simp only [resV_def (X := dX cGA) Tryz.func37, Tryz.results37]; first | exact J5 | refine J6 ?_)
      rw [← HBF.out, HST.out, if_neg HXY.out]
    ·have hd2 : decide ((i : Int) < (r.length : Int)) = false := by simpa using hr
     have HE := Lib.hid (bef_end (l := l) (r := r) HI.out.1 HI.out.2 (fun h => hr h.2))
     clear hr hl
     repeat' (first | refine goS ?_ | refine go2 (fun hh => ?_) (fun hh => ?_) | fail)
     all_goals (simp only [resV_def (X := dX cGA) Tryz.func37, Tryz.results37]; first | exact J5 | refine J6 ?_)
     rw [← HBF.out, HE.out]
   ·have hd : decide ((i : Int) < (l.length : Int)) = false := by simpa using hl
    have HE := Lib.hid (bef_end (l := l) (r := r) HI.out.1 HI.out.2 (fun h => hl h.1))
    clear hl
    repeat' (first | refine goS ?_ | refine go2 (fun hh => ?_) (fun hh => ?_) | fail)
    all_goals (simp only [resV_def (X := dX cGA) Tryz.func37, Tryz.results37]; first | exact J5 | refine J6 ?_)
    rw [← HBF.out, HE.out]
  ·cases h
 ·cases h
def ordAt (l : List Int) (many : Int) (i : Nat) : Bool := ((List.range i).all fun k => !(l.getD i 0 == l.getD k 0)) && inB (l.getD i 0) 0 (w64 (many - 1))
def orderB (l : List Int) (many : Int) : Bool := ((List.range l.length).all (ordAt l many)) && ((l.length : Int) == many)
def sp35 : List AV → Option AV
 | [a, .int .i64 many] => (slV intC a).map fun l => .bool (orderB l many)
 | _ => none
theorem p35 : ∀ args v, sp35 args = some v → v.pur = true := by
 intro args v h
 unfold sp35 at h
 split at h
 ·simp only [Option.map_eq_some_iff] at h; obtain ⟨l, _, rfl⟩ := h; rfl
 ·cases h
noncomputable def cGG : FuncId → Option (List AV → Heap → Option (AV × Heap))
 | 97 => some (pureFn sp97)
 | _ => none
theorem cGG_sound : Sound (dX cGG) := dX_sound (fun f g h => by
 unfold cGG at h
 split at h
 ·cases h; exact F97
 ·cases h)
theorem ord_no {l : List Int} {many : Int} {i : Nat} (hi : i < l.length) (h : ordAt l many i = false) : orderB l many = false := by
 unfold orderB
 rw [all_not hi h]
 rfl
set_option maxHeartbeats 2000000 in
theorem F35 : IntrFn Tryz.prog 35 (pureFn sp35) := by
 refine pure_fn (X := dX cGG) cGG_sound p35 ?_
 intro args v h
 unfold sp35 at h
 split at h
 ·rename_i a many
  simp only [Option.map_eq_some_iff] at h
  obtain ⟨l, ha, rfl⟩ := h
  have hlen := sl_len ha
  have hout := sl_out ha
  have hmax := sl_max ha
  have HA := Lib.hid ha
  generalize hres : orderB l many = res
  have HR := Lib.hid hres
  clear ha hres
  refine ClR.walk (c := _) rfl Tryz.func35 rfl (by kernel_rfl) rfl isRet_fail ?_
  simp only [entryEnv, Nat.reduceAdd, emptyHp]
  repeat' (first | refine goS ?_ | refine go2 (fun hh => ?_) (fun hh => ?_) | fail)
  refine W.loopN l.length (fun i F => ∃ e, F = Fr.mk 35 false e .nil ⟨0, .nil⟩ [] none ∧ (∀ j, j < i → ordAt l many j = true) ∧ e.get 0 = some a ∧ e.get 1 = some (.int .i64 many) ∧ e.get 5 = some (.int .i64 ↑i) ∧ i ≤ l.length) ?_ ?_
  ·refine ⟨_, rfl, fun j hj => absurd hj (by omega), ?_, ?_, ?_, ?_⟩ <;> first | exact Z2 | simp [go_sem, *]
  rintro i F ⟨e, rfl, hall, h0, h1, h5, hi⟩
  have HALL := Lib.hid hall
  clear hall
  by_cases hlt : i < l.length
  ·have hd : decide ((i : Int) < (l.length : Int)) = true := by simpa using hlt
   have hw := wrap_succ hlt hmax
   obtain ⟨p, hp⟩ := get_some hlt
   have hgp : l.getD i 0 = p := by simp [List.getD, hp]
   have hix := int_idx HA.out hp
   have HP := Lib.hid hgp
   clear hgp hp
   repeat' (first | refine goS ?_ | refine go2 (fun hh => ?_) (fun hh => ?_) | fail)
   refine W.loopN i (fun k F => ∃ e, F = Fr.mk 35 false e .nil ⟨0, .nil⟩ [] none ∧ (∀ j, j < k → (!(p == l.getD j 0)) = true) ∧ e.get 0 = some a ∧ e.get 1 = some (.int .i64 many) ∧ e.get 5 = some (.int .i64 ↑i) ∧ e.get 6 = some (.int .i64 ↑k) ∧ k ≤ i) ?_ ?_
   ·refine ⟨_, rfl, fun j hj => absurd hj (by omega), ?_, ?_, ?_, ?_, ?_⟩ <;> first | exact Z2 | simp [go_sem, *]
   clear h0 h1 h5 hd
   rintro k F ⟨e, rfl, hal2, h0, h1, h5, h6, hk⟩
   have HAL2 := Lib.hid hal2
   clear hal2
   by_cases hki : k < i
   ·have hd : decide ((k : Int) < (i : Int)) = true := by simpa using hki
    have hw2 := wrap_succ (m := i) hki (by omega)
    obtain ⟨q, hq⟩ := get_some (show k < l.length by omega)
    have hiy := int_idx HA.out hq
    have hgq : l.getD k 0 = q := by simp [List.getD, hq]
    have HQ := Lib.hid hgq
    clear hgq hq
    cases hpq : (p == q) with
    | true =>
     have HPQ := Lib.hid hpq
     have HF := Lib.hid (ord_no (many := many) hlt (by
      unfold ordAt
      rw [HP.out, all_not hki (by rw [HQ.out, hpq]; rfl)]
      rfl))
     repeat' (first | (apply W.drawQ (id := 7) (l1 := [0, 1, 2, 3, 4, 5, 6, 7, 8]) (l2 := []); kernel_rfl; kernel_rfl; kernel_rfl; exact Z4) | refine go1 ?_ | refine go2 (fun hh => ?_) (fun hh => ?_) | fail)
     all_goals (simp only [resV_def (X := dX cGG) Tryz.func35, Tryz.results35]; first | exact J5 | refine J6 ?_)
     rw [← HR.out, HF.out]
    | false =>
     have HPQ := Lib.hid hpq
     repeat' (first | (apply W.drawQ (id := 7) (l1 := [0, 1, 2, 3, 4, 5, 6, 7, 8]) (l2 := []); kernel_rfl; kernel_rfl; kernel_rfl; exact Z4) | refine go1 ?_ | refine go2 (fun hh => ?_) (fun hh => ?_) | fail)
     refine ⟨hki, _, rfl, fun j hj => ?_, ?_, ?_, ?_, ?_, by omega⟩
     ·rcases Nat.lt_or_ge j k with q | q
      ·exact HAL2.out j q
      ·obtain rfl : j = k := by omega
       rw [HQ.out, HPQ.out]; rfl
     all_goals exact Z2
   ·have hd : decide ((k : Int) < (i : Int)) = false := by simpa using hki
    have HIK := Lib.hid (show i ≤ k by omega)
    have hw3 : IntKind.i64.wrap (many - 1) = w64 (many - 1) := rfl
    have k97 : ∀ h, Cl (dX cGG) 97 [.int .i64 p, .int .i64 0, .int .i64 (w64 (many - 1))] h (.ret (.bool (inB p 0 (w64 (many - 1)))) h none) := fun h => K97 rfl p 0 _ h
    have hat : ordAt l many i = inB p 0 (w64 (many - 1)) := by
     unfold ordAt
     rw [HP.out, all_yes fun m hm => HAL2.out m (by have := HIK.out; omega)]
     rfl
    have HAT := Lib.hid hat
    clear hki hk hat
    generalize w64 (many - 1) = m1 at *
    cases hb : inB p 0 m1 with
    | true =>
     rw [hb] at k97
     have HB := Lib.hid hb
     clear hb
     repeat' (first | refine goS ?_ | (apply U6; exact Z1; exact Z1; (focus (simp only [List.nil_append, List.append_nil]; first | exact k97 _)); simp only [pM, pN, rR, rP]) | refine go2 (fun hh => ?_) (fun hh => ?_) | fail)
     refine ⟨hlt, _, rfl, fun j hj => ?_, ?_, ?_, ?_, by omega⟩
     ·rcases Nat.lt_or_ge j i with q | q
      ·exact HALL.out j q
      ·obtain rfl : j = i := by omega
       rw [HAT.out, HB.out]
     all_goals exact Z2
    | false =>
     rw [hb] at k97
     have HF := Lib.hid (ord_no (many := many) hlt (by rw [HAT.out, hb]))
     clear hb
     repeat' (first | refine goS ?_ | (apply U6; exact Z1; exact Z1; (focus (simp only [List.nil_append, List.append_nil]; first | exact k97 _)); simp only [pM, pN, rR, rP]) | refine go2 (fun hh => ?_) (fun hh => ?_) | fail)
     all_goals (simp only [resV_def (X := dX cGG) Tryz.func35, Tryz.results35]; first | exact J5 | refine J6 ?_)
     rw [← HR.out, HF.out]
  ·have hd : decide ((i : Int) < (l.length : Int)) = false := by simpa using hlt
   have hil : i = l.length := by omega
   have HT := Lib.hid (all_yes (n := l.length) (f := ordAt l many) (fun j hj => HALL.out j (by omega)))
   clear hil
   repeat' (first | refine goS ?_ | refine go2 (fun hh => ?_) (fun hh => ?_) | fail)
   all_goals (simp only [resV_def (X := dX cGG) Tryz.func35, Tryz.results35]; first | exact J5 | refine J6 ?_)
   rw [← HR.out]
   unfold orderB
   rw [HT.out]
   rfl
 ·cases h
end Go.AM
namespace Go.AM
open Go Go.Proofs
variable [Keep]
attribute [local irreducible] W WO WO1 WD WQ WT thenQ blockQ endR isRet retK Cl ClR
attribute [local irreducible] roundQ RdR clR
theorem Blt.ext {h h' : Heap} {v : AV} {sz : Nat} {l : List AV} (b : Blt h v sz l) (k : HExt h h') : Blt h' v sz l := by
 rcases b with q | ⟨id, h1, h2, h3, h4⟩
 ·exact .inl q
 ·exact .inr ⟨id, h1, (k.2 id h3).trans h2, Nat.lt_of_lt_of_le h3 k.1, h4⟩
section
variable {X : Ctx} {ops : Array Oper} {K P : AV → Fr → Prop} {F : Fr} {d : Option Tmp} {T : TypeId} {p : String} {af : Array Edge}
end
def kidsTo (p : List Nat) (m : Nat) : List (List Nat) := ((List.range m).filter fun v => !p.contains v).map fun v => p ++ [v]
def lev (n : Nat) : Nat → List (List Nat)
 | 0 => [[]]
 | i + 1 => (lev n i).flatMap fun p => kidsTo p n
theorem lev_succ (n i : Nat) : lev n (i + 1) = (lev n i).flatMap fun p => kidsTo p n := rfl
def Elems (h : Heap) (es : List AV) (ps : List (List Nat)) : Prop := es.length = ps.length ∧ ∀ (i : Nat) (r : AV) (p : List Nat), es[i]? = some r → ps[i]? = some p → Blt h r 1 (natsV p)
theorem Elems.ext {h h' : Heap} {es : List AV} {ps : List (List Nat)} (q : Elems h es ps) (k : HExt h h') : Elems h' es ps := ⟨q.1, fun i r p h1 h2 => (q.2 i r p h1 h2).ext k⟩
theorem Elems.add {h : Heap} {es : List AV} {ps : List (List Nat)} {r : AV} {p : List Nat} (q : Elems h es ps) (b : Blt h r 1 (natsV p)) : Elems h (es ++ [r]) (ps ++ [p]) := by
 refine ⟨by simp [q.1], fun i r' p' h1 h2 => ?_⟩
 have hl := q.1
 rcases Nat.lt_trichotomy i es.length with c | c | c
 ·rw [List.getElem?_append_left c] at h1
  rw [List.getElem?_append_left (by omega)] at h2
  exact q.2 i r' p' h1 h2
 ·subst c
  rw [List.getElem?_append_right (Nat.le_refl _)] at h1
  rw [hl, List.getElem?_append_right (Nat.le_refl _)] at h2
  simp at h1 h2
  subst h1 h2
  exact b
 ·rw [List.getElem?_eq_none (by simp; omega)] at h1
  cases h1
end Go.AM
namespace Go.AM
open Go Go.Proofs
variable [Keep]
attribute [local irreducible] W WO WO1 WD WQ WT thenQ blockQ endR isRet retK Cl ClR
attribute [local irreducible] farS againS matchS measB
noncomputable def c4 : FuncId → Option (List AV → Heap → Option (AV × Heap))
 | 31 => some (pureFn sp31)
 | 32 => some (pureFn sp32)
 | 33 => some (pureFn sp33)
 | 34 => some (pureFn sp34)
 | f => c25 cK f
theorem meas_len {l : List Pt} {off : Int} (h : measB l off = true) : 2 ≤ l.length ∧ l.length ≤ 4 := by
 unfold measB at h
 simp only [allB, inB, Bool.and_eq_true, decide_eq_true_eq] at h
 omega
end Go.AM
namespace Go.AM
open Go Go.Proofs
variable [Keep]
attribute [local irreducible] W WO WO1 WD WQ WT thenQ blockQ endR isRet retK Cl ClR
theorem w64_pred {n : Nat} (h : n ≤ 4) : w64 ((n : Int) - 1) = (n : Int) - 1 := wrap_small (by omega) (by omega)
theorem order_nat {o : List Int} {n : Nat} (hn : n ≤ 4) (h : orderB o n = true) : ∃ p : List Nat, o = p.map (fun k : Nat => (k : Int)) ∧ IsOrd n p := by
 unfold orderB at h
 simp only [Bool.and_eq_true, beq_iff_eq] at h
 obtain ⟨h1, h2⟩ := h
 have hat : ∀ i, i < o.length → ordAt o n i = true := fun i hi => List.all_eq_true.1 h1 i (by simpa using hi)
 have hin : ∀ i, i < o.length → 0 ≤ o.getD i 0 ∧ o.getD i 0 ≤ (n : Int) - 1 := fun i hi => by
  have := hat i hi
  unfold ordAt at this
  rw [w64_pred hn] at this
  simp only [inB, Bool.and_eq_true, decide_eq_true_eq] at this
  omega
 have hne : ∀ i k, i < o.length → k < i → o.getD i 0 ≠ o.getD k 0 := fun i k hi hk e => by
  have := hat i hi
  unfold ordAt at this
  simp only [Bool.and_eq_true] at this
  have h3 := List.all_eq_true.1 this.1 k (by simpa using hk)
  rw [e] at h3
  simp at h3
 have hget : ∀ i (hi : i < o.length), o.getD i 0 = o[i] := fun i hi => by simp [List.getD, hi]
 refine ⟨o.map Int.toNat, ?_, ⟨by rw [List.length_map]; omega, fun k hk => ?_, ?_⟩⟩
 ·rw [List.map_map]
  conv => lhs; rw [← List.map_id o]
  refine List.map_congr_left fun x hx => ?_
  obtain ⟨i, hi, rfl⟩ := List.mem_iff_getElem.1 hx
  have := hin i hi
  rw [hget i hi] at this
  show o[i] = ((o[i].toNat : Nat) : Int)
  omega
 ·obtain ⟨x, hx, rfl⟩ := List.mem_map.1 hk
  obtain ⟨i, hi, rfl⟩ := List.mem_iff_getElem.1 hx
  have := hin i hi
  rw [hget i hi] at this
  omega
 ·unfold List.Nodup
  rw [List.pairwise_iff_getElem]
  intro i j hi hj hij e
  rw [List.length_map] at hi hj
  simp only [List.getElem_map] at e
  have a := hin i hi
  have b := hin j hj
  rw [hget i hi] at a
  rw [hget j hj] at b
  refine hne j i hj hij ?_
  rw [hget i hi, hget j hj]
  omega
theorem off_eq {off : Int} {p q : Pt} (h0 : 0 ≤ off) (h6 : off ≤ 6) (hp : okPt 80 p = true) (hq : okPt 80 q = true) :
  offB off p q = (!decide (w64 (p.x - q.x) > off) && !decide (w64 (q.x - p.x) > off) && !decide (w64 (p.y - q.y) > off) && !decide (w64 (q.y - p.y) > off)) := by
 rw [ok80] at hp hq
 have e1 : w64 (p.x - q.x) = p.x - q.x := wrap_small (by omega) (by omega)
 have e2 : w64 (q.x - p.x) = q.x - p.x := wrap_small (by omega) (by omega)
 have e3 : w64 (p.y - q.y) = p.y - q.y := wrap_small (by omega) (by omega)
 have e4 : w64 (q.y - p.y) = q.y - p.y := wrap_small (by omega) (by omega)
 have e5 : w64 (-off) = -off := wrap_small (by omega) (by omega)
 simp only [offB, okPt, inB, e1, e2, e3, e4, e5]
 rw [Bool.eq_iff_iff]
 simp
 omega
theorem meas_ok {l : List Pt} {off : Int} (h : measB l off = true) : l.all (okPt 80) = true ∧ 0 ≤ off ∧ off ≤ 6 := by
 unfold measB at h
 rw [allB_P] at h
 simp only [pointsB, inB, Bool.and_eq_true, decide_eq_true_eq] at h
 refine ⟨List.all_eq_true.2 fun p hp => ?_, by omega⟩
 have := List.all_eq_true.1 h.1.2.1 p hp
 have e : w64 (-20) = -20 := rfl
 simp only [okPt, inB, e, Bool.and_eq_true, decide_eq_true_eq] at this
 rw [ok80]
 omega
attribute [local irreducible] againS measB orderB
theorem toNat_map (p : List Nat) : (p.map fun k : Nat => (k : Int)).map Int.toNat = p := by
 rw [List.map_map]
 conv => rhs; rw [← List.map_id p]
 rfl
end Go.AM
namespace Go.AM
open Go Go.Proofs
variable [Keep]
attribute [local irreducible] W WO WO1 WD WQ WT thenQ blockQ endR isRet retK Cl ClR
def sp175 : List AV → Option AV
 | [.agg [.int .i64 x, .int .i64 y], .agg [.int .i64 a, .int .i64 b], .int .i64 off] => some (.bool (offB off ⟨x, y⟩ ⟨a, b⟩))
 | _ => none
theorem p175 : ∀ args v, sp175 args = some v → v.pur = true := by
 intro args v h
 unfold sp175 at h
 split at h
 ·cases h; rfl
 ·cases h
theorem F175 : IntrFn Tryz.prog 175 (pureFn sp175) := by
 refine pure_fn (X := dX cGG) cGG_sound p175 ?_
 intro args v h
 unfold sp175 at h
 split at h
 ·rename_i x y a b off
  have h := Option.some.inj h
  subst h
  have w1 : IntKind.i64.wrap (x - a) = w64 (x - a) := rfl
  have w2 : IntKind.i64.wrap (y - b) = w64 (y - b) := rfl
  have w3 : IntKind.i64.wrap (-off) = w64 (-off) := rfl
  have k97a : ∀ h, Cl (dX cGG) 97 [.int .i64 (w64 (x - a)), .int .i64 (w64 (-off)), .int .i64 off] h (.ret (.bool (inB (w64 (x - a)) (w64 (-off)) off)) h none) := fun h => K97 rfl _ _ _ h
  have k97b : ∀ h, Cl (dX cGG) 97 [.int .i64 (w64 (y - b)), .int .i64 (w64 (-off)), .int .i64 off] h (.ret (.bool (inB (w64 (y - b)) (w64 (-off)) off)) h none) := fun h => K97 rfl _ _ _ h
  have HF := Lib.hid (show offB off ⟨x, y⟩ ⟨a, b⟩ = (inB (w64 (x - a)) (w64 (-off)) off && inB (w64 (y - b)) (w64 (-off)) off) from rfl)
  generalize offB off ⟨x, y⟩ ⟨a, b⟩ = r at *
  generalize inB (w64 (x - a)) (w64 (-off)) off = b1 at *
  generalize inB (w64 (y - b)) (w64 (-off)) off = b2 at *
  generalize w64 (x - a) = z1 at *
  generalize w64 (y - b) = z2 at *
  generalize w64 (-off) = z3 at *
  refine ClR.walk (c := _) rfl Tryz.func175 rfl (by kernel_rfl) rfl isRet_fail ?_
  simp only [entryEnv, Nat.reduceAdd, emptyHp]
  cases b1 <;> cases b2
  all_goals (
   repeat' (first | refine goS ?_ | (apply U6; exact Z1; exact Z1; (focus (simp only [List.nil_append, List.append_nil]; first | exact k97a _ | exact k97b _)); simp only [pM, pN, rR, rP]) | refine go2 (fun hh => ?_) (fun hh => ?_) | fail)
   all_goals (simp only [resV_def (X := dX cGG) Tryz.func175, Tryz.results175]; first | exact J5 | refine J6 ?_)
   all_goals (rw [HF.out]; rfl))
 ·cases h
theorem K175 {X : Ctx} (hX : X.intr 175 = some (pureFn sp175)) (p q : Pt) (off : Int) (h : Heap) : Cl X 175 [.agg [.int .i64 p.x, .int .i64 p.y], .agg [.int .i64 q.x, .int .i64 q.y], .int .i64 off] h (.ret (.bool (offB off p q)) h none) := Cl.intr hX rfl
def gd131 (hs ps : List Pt) (turn : Int) (o : List Int) : Bool := inB turn 0 7 && decide (hs.length = ps.length) && decide (o.length = ps.length) && o.all fun k => decide (0 ≤ k) && decide (k < (ps.length : Int))
def sp131 : List AV → Option AV
 | [la, .int .i64 turn, oa, ca, .int .i64 off] => match slV ptC la, slV intC oa, slV ptC ca with
  | some ps, some o, some hs => if gd131 hs ps turn o = true then some (.bool (accB off hs ps turn (o.map Int.toNat))) else none
  | _, _, _ => none
 | _ => none
theorem p131 : ∀ args v, sp131 args = some v → v.flat = true := by
 intro args v h
 unfold sp131 at h
 split at h
 ·split at h
  ·split at h
   ·have h := Option.some.inj h
    subst h
    rfl
   ·cases h
  ·cases h
 ·cases h
noncomputable def cGJ : FuncId → Option (List AV → Heap → Option (AV × Heap))
 | 81 => some (pureFn sp81)
 | 175 => some (pureFn sp175)
 | _ => none
theorem cGJ_sound : Sound (dX cGJ) := dX_sound (fun f g h => by
 unfold cGJ at h
 split at h
 ·cases h; exact F81
 ·cases h; exact F175
 ·cases h)
set_option maxHeartbeats 4000000 in
theorem F131 : IntrFn Tryz.prog 131 (flatFn sp131) := by
 refine flat_fn (X := dX cGJ) cGJ_sound p131 ?_
 intro args v h
 unfold sp131 at h
 split at h
 ·rename_i la turn oa ca off
  split at h
  ·rename_i ps os hs hl ho hc
   split at h
   ·rename_i hg
    have h := Option.some.inj h
    subst h
    unfold gd131 at hg
    simp only [Bool.and_eq_true, decide_eq_true_eq] at hg
    obtain ⟨⟨⟨m1, m2⟩, m3⟩, m4⟩ := hg
    have o1 := sl_out hl
    have o2 := sl_out ho
    have o3 := sl_out hc
    have l3 := sl_len hc
    rw [m2] at l3
    have hmax := sl_max hl
    have HL := Lib.hid hl
    have HO := Lib.hid ho
    have HC := Lib.hid hc
    have HLEN := Lib.hid m2
    have HOL := Lib.hid m3
    have HOA := Lib.hid m4
    have HIN := Lib.hid m1
    have HMX := Lib.hid hmax
    generalize hres : accB off hs ps turn (os.map Int.toNat) = res
    have HR := Lib.hid hres
    clear hl ho hc m1 m2 m3 m4 hmax hres
    refine ClR.walk (c := _) rfl Tryz.func131 rfl (by kernel_rfl) rfl isRet_fail ?_
    simp only [entryEnv, Nat.reduceAdd, emptyHp]
    repeat' (first | refine goS ?_ | refine go2 (fun hh => ?_) (fun hh => ?_) | fail)
    refine W.loopN ps.length (fun i F => ∃ e, F = Fr.mk 131 false e .nil ⟨0, .nil⟩ [] none ∧ (∀ j, j < i → offB off (turnP turn (ps.getD ((os.map Int.toNat).getD j 0) ⟨0, 0⟩)) (hs.getD j ⟨0, 0⟩) = true) ∧ e.get 0 = some la ∧ e.get 1 = some (.int .i64 turn) ∧ e.get 2 = some oa ∧ e.get 3 = some ca ∧ e.get 4 = some (.int .i64 off) ∧ e.get 11 = some (.int .i64 ↑i) ∧ i ≤ ps.length) ?_ ?_
    ·refine ⟨_, rfl, fun j hj => absurd hj (by omega), ?_, ?_, ?_, ?_, ?_, ?_, ?_⟩ <;> first | exact Z2 | simp [go_sem, *]
    rintro i F ⟨e, rfl, hall, h0, h1, h2, h3, h4, h11, hi⟩
    have HALL := Lib.hid hall
    clear hall
    by_cases hlt : i < ps.length
    ·have hd : decide ((i : Int) < (ps.length : Int)) = true := by simpa using hlt
     have hw := wrap_succ hlt HMX.out
     obtain ⟨x, hx⟩ := get_some (show i < os.length by rw [HOL.out]; exact hlt)
     have hxr := List.all_eq_true.1 HOA.out x (List.mem_of_getElem? hx)
     simp only [Bool.and_eq_true, decide_eq_true_eq] at hxr
     obtain ⟨v, rfl⟩ : ∃ v : Nat, x = v := ⟨x.toNat, by omega⟩
     have hv : (os.map Int.toNat)[i]? = some v := by simp [hx]
     obtain ⟨a, ha⟩ := get_some (show v < ps.length by omega)
     obtain ⟨q, hq⟩ := get_some (show i < hs.length by rw [HLEN.out]; exact hlt)
     have hio := int_idx HO.out hx
     have hix := pts_idx HL.out ha
     have hiy := pts_idx HC.out hq
     have hat := off_at (off := off) (t := turn) hq hv ha
     have hno := fun hh => acc_no (off := off) (t := turn) hq hv ha hh
     have htr := turnP_R HIN.out a
     have k81 : ∀ h, Cl (dX cGJ) 81 [.agg [.int .i64 a.x, .int .i64 a.y], .int .i64 turn] h (.ret (.agg [.int .i64 (turnP turn a).x, .int .i64 (turnP turn a).y]) h none) := fun h => by
      rw [htr]
      exact K81 rfl a turn h
     generalize turnP turn a = b at *
     have k175 : ∀ h, Cl (dX cGJ) 175 [.agg [.int .i64 b.x, .int .i64 b.y], .agg [.int .i64 q.x, .int .i64 q.y], .int .i64 off] h (.ret (.bool (offB off b q)) h none) := fun h => K175 rfl b q off h
     have HAT := Lib.hid hat
     have HNO := Lib.hid hno
     clear hx hv ha hq hat hno hxr htr
     cases hof : offB off b q with
     | true =>
      rw [hof] at k175
      have HOF := Lib.hid hof
      clear hof
      repeat' (first | (apply W.drawQ (id := 4) (l1 := [0, 1, 2, 3, 4, 5, 6, 7, 8, 9, 10, 11, 12, 13, 14, 15]) (l2 := []); kernel_rfl; kernel_rfl; kernel_rfl; exact Z4) | refine go1 ?_ | (apply U6; exact Z1; exact Z1; (focus (simp only [List.nil_append, List.append_nil]; first | exact k81 _ | exact k175 _)); simp only [pM, pN, rR, rP]) | refine go2 (fun hh => ?_) (fun hh => ?_) | fail)
      refine ⟨hlt, _, rfl, fun j hj => ?_, ?_, ?_, ?_, ?_, ?_, ?_, by omega⟩
      ·rcases Nat.lt_or_ge j i with q | q
       ·exact HALL.out j q
       ·obtain rfl : j = i := by omega
        rw [HAT.out]; exact HOF.out
      all_goals exact Z2
     | false =>
      rw [hof] at k175
      have HF := Lib.hid (HNO.out hof)
      clear hof
      repeat' (first | (apply W.drawQ (id := 4) (l1 := [0, 1, 2, 3, 4, 5, 6, 7, 8, 9, 10, 11, 12, 13, 14, 15]) (l2 := []); kernel_rfl; kernel_rfl; kernel_rfl; exact Z4) | refine go1 ?_ | (apply U6; exact Z1; exact Z1; (focus (simp only [List.nil_append, List.append_nil]; first | exact k81 _ | exact k175 _)); simp only [pM, pN, rR, rP]) | refine go2 (fun hh => ?_) (fun hh => ?_) | fail)
      all_goals (simp only [resV_def (X := dX cGJ) Tryz.func131, Tryz.results131]; first | exact J5 | refine J6 ?_)
      rw [← HR.out, HF.out]
    ·have hd : decide ((i : Int) < (ps.length : Int)) = false := by simpa using hlt
     have HA := Lib.hid (show accB off hs ps turn (os.map Int.toNat) = true from all_yes fun j hj => HALL.out j (by rw [HLEN.out] at hj; omega))
     clear hlt hi
     repeat' (first | refine goS ?_ | refine go2 (fun hh => ?_) (fun hh => ?_) | fail)
     all_goals (simp only [resV_def (X := dX cGJ) Tryz.func131, Tryz.results131]; first | exact J5 | refine J6 ?_)
     rw [← HR.out, HA.out]
   ·cases h
  ·cases h
 ·cases h
def ext (n : Nat) : Nat → List Nat → List (List Nat)
 | 0, p => [p]
 | d + 1, p => (kidsTo p n).flatMap (ext n d)
theorem lev_ext (n : Nat) : ∀ (d i : Nat), lev n (i + d) = (lev n i).flatMap (ext n d) := by
 intro d
 induction d with
 | zero =>
  intro i
  show lev n i = (lev n i).flatMap fun p => [p]
  simp
 | succ d ih =>
  intro i
  rw [show i + (d + 1) = (i + 1) + d by omega, ih (i + 1), lev_succ, List.flatMap_assoc]
  rfl
theorem find_filter {α β : Type} (f : α → Bool) (g : α → Option β) : ∀ (l : List α), (l.filter f).findSome? g = l.findSome? fun v => if f v then g v else none := by
 intro l
 induction l with
 | nil => rfl
 | cons a l ih =>
  rw [List.filter_cons]
  cases hf : f a with
  | true =>
   simp only [if_true, List.findSome?_cons, hf]
   cases g a with
   | none => exact ih
   | some b => rfl
  | false =>
   simp only [Bool.false_eq_true, if_false, List.findSome?_cons, hf]
   exact ih
theorem ext_srch (n : Nat) (acc : List Nat → Bool) : ∀ (d : Nat) (p : List Nat), (ext n d p).find? acc = srch n acc d p := by
 intro d
 induction d with
 | zero =>
  intro p
  simp only [ext, srch, List.find?_cons, List.find?_nil]
  cases acc p <;> rfl
 | succ d ih =>
  intro p
  simp only [ext, srch, List.find?_flatMap, kidsTo, List.findSome?_map, find_filter]
  congr 1
  funext v
  simp only [Function.comp, ih]
  cases p.contains v <;> rfl
theorem lev_srch (n : Nat) (acc : List Nat → Bool) : (lev n n).find? acc = srch n acc n [] := by
 have := lev_ext n n 0
 rw [Nat.zero_add] at this
 rw [this, ← ext_srch]
 show ([[]].flatMap (ext n n)).find? acc = _
 simp
end Go.AM
namespace Go.AM
open Go
theorem maxV_eq (x y : Int) : maxV x y = max x y := by unfold maxV; rw [Int.max_def]; split <;> split <;> omega
theorem minV_eq (x y : Int) : minV x y = min x y := by unfold minV; rw [Int.min_def]; split <;> split <;> omega
theorem interS_lo (a b : Sp) : (interS a b).lo = max a.lo b.lo := maxV_eq _ _
theorem interS_hi (a b : Sp) : (interS a b).hi = min a.hi b.hi := minV_eq _ _
theorem Sp.ext2 {a b : Sp} (h1 : a.lo = b.lo) (h2 : a.hi = b.hi) : a = b := by cases a; cases b; simp_all
theorem interS_right (a b c : Sp) : interS (interS a b) c = interS (interS a c) b := Sp.ext2 (by simp only [interS_lo]; omega) (by simp only [interS_hi]; omega)
theorem emp_inter {a b : Sp} (h : empS a = true) : empS (interS a b) = true := by
 simp only [empS, decide_eq_true_eq, interS_lo, interS_hi] at *
 omega
theorem getD_set_same {l : List Sp} {n : Nat} {x : Sp} (h : n < l.length) : (l.set n x).getD n ⟨0, 0⟩ = x := by simp [List.getD, h]
theorem getD_set_ne {l : List Sp} {n j : Nat} {x : Sp} (h : n ≠ j) : (l.set n x).getD j ⟨0, 0⟩ = l.getD j ⟨0, 0⟩ := by simp [List.getD, List.getElem?_set, h]
def allS (b : Int) : List Lim → Sp → Sp
 | [], s => s
 | m :: r, s => if m.b == b then allS b r (interS s m.sp) else allS b r s
theorem allS_emp (b : Int) : ∀ (l : List Lim) (s : Sp), empS s = true → empS (allS b l s) = true := by
 intro l
 induction l with
 | nil => intro s h; exact h
 | cons m r ih =>
  intro s h
  simp only [allS]
  split
  ·exact ih _ (emp_inter h)
  ·exact ih _ h
theorem allS_inter (b : Int) : ∀ (l : List Lim) (s t : Sp), interS (allS b l s) t = allS b l (interS s t) := by
 intro l
 induction l with
 | nil => intro s t; rfl
 | cons m r ih =>
  intro s t
  simp only [allS]
  split
  ·rw [ih, interS_right]
  ·rw [ih]
theorem limS_all (b : Int) : ∀ (l : List Lim) (s : Sp), empS s = false → (∀ t, limS b l s = some t → t = allS b l s ∧ empS t = false) ∧ (limS b l s = none → empS (allS b l s) = true) := by
 intro l
 induction l with
 | nil => intro s h; simp [limS, allS, h]
 | cons m r ih =>
  intro s h
  simp only [limS, allS]
  split
  ·cases e : empS (interS s m.sp) with
   | true =>
    refine ⟨fun t h' => by simp at h', fun _ => allS_emp _ _ _ e⟩
   | false =>
    simp only [Bool.false_eq_true, if_false]
    exact ih _ e
  ·exact ih _ h
def onS (ax : Ax) : Nat → Sp
 | 0 => allS 0 ax.limits ax.chuck
 | k + 1 => allS ((k + 1 : Nat) : Int) ax.limits (nxtS ax (onS ax k))
theorem range_snoc (f : Nat → Sp) (k : Nat) : (List.range (k + 1)).map f = (List.range k).map f ++ [f k] := by simp [List.range_succ]
theorem fwd_on (ax : Ax) (hc : empS ax.chuck = false) (hn : ∀ k, k < 12 → empS (onS ax k) = false → empS (nxtS ax (onS ax k)) = false) : ∀ k, k ≤ 13 →
  (∀ out, fwdS ax k = some out → out = (List.range k).map (onS ax) ∧ ∀ j, j < k → empS (onS ax j) = false) ∧ (fwdS ax k = none → ∃ j, j < k ∧ empS (onS ax j) = true) := by
 intro k
 induction k with
 | zero => intro _; simp [fwdS]
 | succ k ih =>
  intro hk
  obtain ⟨h1, h2⟩ := ih (by omega)
  simp only [fwdS]
  cases ho : fwdS ax k with
  | none =>
   refine ⟨fun out h => by simp at h, fun _ => ?_⟩
   obtain ⟨j, hj, he⟩ := h2 ho
   exact ⟨j, by omega, he⟩
  | some out =>
   obtain ⟨e1, e2⟩ := h1 out ho
   have hst : empS (startS ax out k) = false ∧ allS k ax.limits (startS ax out k) = onS ax k := by
    cases k with
    | zero => exact ⟨hc, rfl⟩
    | succ k =>
     have : startS ax out (k + 1) = nxtS ax (onS ax k) := by
      unfold startS
      rw [if_neg (by omega), e1]
      simp [List.getD]
     rw [this]
     exact ⟨hn k (by omega) (e2 k (by omega)), rfl⟩
   obtain ⟨l1, l2⟩ := limS_all k ax.limits (startS ax out k) hst.1
   simp only
   cases hl : limS k ax.limits (startS ax out k) with
   | none =>
    refine ⟨fun out h => by simp at h, fun _ => ⟨k, by omega, ?_⟩⟩
    rw [← hst.2]
    exact l2 hl
   | some s =>
    obtain ⟨g1, g2⟩ := l1 s hl
    refine ⟨fun out' h => ?_, fun h => by simp at h⟩
    simp only [Option.some.injEq] at h
    subst h
    rw [hst.2] at g1
    subst g1
    refine ⟨by rw [range_snoc, ← e1], fun j hj => ?_⟩
    rcases Nat.lt_or_ge j k with h | h
    ·exact e2 j h
    ·have : j = k := by omega
     subst this
     exact g2
def backS (ax : Ax) : Nat → List Sp → List Sp
 | 0, out => out
 | n + 1, out => backS ax n (out.set n (interS (out.getD n ⟨0, 0⟩) (prvS ax (out.getD (n + 1) ⟨0, 0⟩))))
theorem back_len (ax : Ax) : ∀ n (out : List Sp), (backS ax n out).length = out.length := by
 intro n
 induction n with
 | zero => intro out; rfl
 | succ n ih => intro out; simp [backS, ih]
theorem back_keep (ax : Ax) : ∀ n (out : List Sp) (j : Nat), n ≤ j → (backS ax n out).getD j ⟨0, 0⟩ = out.getD j ⟨0, 0⟩ := by
 intro n
 induction n with
 | zero => intro out j _; rfl
 | succ n ih =>
  intro out j h
  simp only [backS]
  rw [ih _ j (by omega), getD_set_ne (by omega)]
theorem back_emp (ax : Ax) : ∀ n (out : List Sp) (j : Nat), n ≤ out.length → empS (out.getD j ⟨0, 0⟩) = true → empS ((backS ax n out).getD j ⟨0, 0⟩) = true := by
 intro n
 induction n with
 | zero => intro out j _ h; exact h
 | succ n ih =>
  intro out j hl h
  simp only [backS]
  refine ih _ j (by simp; omega) ?_
  by_cases hj : n = j
  ·subst hj
   have : (out.set n (interS (out.getD n ⟨0, 0⟩) (prvS ax (out.getD (n + 1) ⟨0, 0⟩)))).getD n ⟨0, 0⟩ = interS (out.getD n ⟨0, 0⟩) (prvS ax (out.getD (n + 1) ⟨0, 0⟩)) := getD_set_same (by omega)
   rw [this]
   exact emp_inter h
  ·have : (out.set n (interS (out.getD n ⟨0, 0⟩) (prvS ax (out.getD (n + 1) ⟨0, 0⟩)))).getD j ⟨0, 0⟩ = out.getD j ⟨0, 0⟩ := getD_set_ne hj
   rw [this]
   exact h
theorem bwd_back (ax : Ax) : ∀ n (out : List Sp), n < out.length → (∀ t, bwdS ax n out = some t → t = backS ax n out ∧ ∀ j, j < n → empS (t.getD j ⟨0, 0⟩) = false) ∧ (bwdS ax n out = none → ∃ j, j < n ∧ empS ((backS ax n out).getD j ⟨0, 0⟩) = true) := by
 intro n
 induction n with
 | zero => intro out _; simp [bwdS, backS]
 | succ n ih =>
  intro out hl
  simp only [bwdS, backS]
  have hset : (out.set n (interS (out.getD n ⟨0, 0⟩) (prvS ax (out.getD (n + 1) ⟨0, 0⟩)))).getD n ⟨0, 0⟩ = interS (out.getD n ⟨0, 0⟩) (prvS ax (out.getD (n + 1) ⟨0, 0⟩)) := getD_set_same (by omega)
  cases e : empS (interS (out.getD n ⟨0, 0⟩) (prvS ax (out.getD (n + 1) ⟨0, 0⟩))) with
  | true =>
   refine ⟨fun t h => by simp at h, fun _ => ⟨n, by omega, ?_⟩⟩
   rw [back_keep _ _ _ _ (Nat.le_refl _), hset]
   exact e
  | false =>
   simp only [Bool.false_eq_true, if_false]
   obtain ⟨h1, h2⟩ := ih (out.set n (interS (out.getD n ⟨0, 0⟩) (prvS ax (out.getD (n + 1) ⟨0, 0⟩)))) (by simp; omega)
   refine ⟨fun t h => ?_, fun h => ?_⟩
   ·obtain ⟨g1, g2⟩ := h1 t h
    refine ⟨g1, fun j hj => ?_⟩
    rcases Nat.lt_or_ge j n with h' | h'
    ·exact g2 j h'
    ·have : j = n := by omega
     subst this
     rw [g1, back_keep _ _ _ _ (Nat.le_refl _), hset]
     exact e
   ·obtain ⟨j, hj, he⟩ := h2 h
    exact ⟨j, by omega, he⟩
def refS (ax : Ax) : Option (List Sp) := if (backS ax 12 ((List.range 13).map (onS ax))).any empS then none else some (backS ax 12 ((List.range 13).map (onS ax)))
theorem any_getD {l : List Sp} {j : Nat} (hj : j < l.length) (h : empS (l.getD j ⟨0, 0⟩) = true) : l.any empS = true :=
 List.any_eq_true.2 ⟨l[j], List.getElem_mem hj, by simpa [List.getD, hj] using h⟩
theorem bounds_ref [Keep] (ax : Ax) (hc : empS ax.chuck = false) (hn : ∀ k, k < 12 → empS (onS ax k) = false → empS (nxtS ax (onS ax k)) = false) : boundsS ax = refS ax := by
 obtain ⟨h1, h2⟩ := fwd_on ax hc hn 13 (Nat.le_refl _)
 have hlen : (backS ax 12 ((List.range 13).map (onS ax))).length = 13 := by rw [back_len]; simp
 rw [boundsS_def]
 unfold refS
 cases hf : fwdS ax 13 with
 | none =>
  obtain ⟨j, hj, he⟩ := h2 hf
  have : ((List.range 13).map (onS ax)).getD j ⟨0, 0⟩ = onS ax j := by simp [List.getD, hj]
  have := back_emp ax 12 ((List.range 13).map (onS ax)) j (by simp) (by rw [this]; exact he)
  rw [any_getD (by omega) this]
  rfl
 | some out =>
  obtain ⟨rfl, g2⟩ := h1 out hf
  simp only
  obtain ⟨b1, b2⟩ := bwd_back ax 12 ((List.range 13).map (onS ax)) (by simp)
  cases hb : bwdS ax 12 ((List.range 13).map (onS ax)) with
  | none =>
   obtain ⟨j, hj, he⟩ := b2 hb
   rw [any_getD (by omega) he]
   rfl
  | some t =>
   obtain ⟨e1, e2⟩ := b1 t hb
   have : (backS ax 12 ((List.range 13).map (onS ax))).any empS = false := by
    rw [List.any_eq_false]
    intro x hx
    obtain ⟨j, hj⟩ := List.mem_iff_getElem?.1 hx
    have hjl : j < 13 := by
     rcases Nat.lt_or_ge j 13 with h | h
     ·exact h
     ·rw [List.getElem?_eq_none (by omega)] at hj; cases hj
    have hg : (backS ax 12 ((List.range 13).map (onS ax))).getD j ⟨0, 0⟩ = x := by simp [List.getD, hj]
    rcases Nat.lt_or_ge j 12 with h | h
    ·have := e2 j h
     rw [e1, hg] at this
     simp [this]
    ·have : j = 12 := by omega
     subst this
     rw [back_keep _ _ _ _ (Nat.le_refl _)] at hg
     have h12 : ((List.range 13).map (onS ax)).getD 12 ⟨0, 0⟩ = onS ax 12 := by simp [List.getD]
     rw [h12] at hg
     rw [← hg, g2 12 (by omega)]
     simp
   rw [this, e1]
   rfl
end Go.AM
namespace Go.AM
open Go Go.Proofs
variable [Keep]
attribute [local irreducible] W WO WO1 WD WQ WT thenQ blockQ endR isRet retK Cl ClR
def onR (ax : Ax) : Nat → List Sp → List Sp
 | 0, out => out.set 0 (interS (out.getD 0 ⟨0, 0⟩) ax.chuck)
 | n + 1, out => (onR ax n out).set (n + 1) (interS ((onR ax n out).getD (n + 1) ⟨0, 0⟩) (nxtS ax ((onR ax n out).getD n ⟨0, 0⟩)))
theorem onR_len (ax : Ax) (l : List Sp) : ∀ n, (onR ax n l).length = l.length := by
 intro n
 induction n with
 | zero => simp [onR]
 | succ n ih => simp [onR, ih]
def lookS (t : List Sp) : AV := if t.any empS then .tuple [.nilslice, .bool false] else .tuple [slN (t.map spC.enc), .bool true]
def axisV (ax : Ax) (l : List Sp) : AV := lookS (backS ax 12 (onR ax 12 l))
def isAxi (ax : Ax) (l : List Sp) (h : Heap) (r : COut) : Prop := ∃ h', HExt h h' ∧ r = .ret (axisV ax l) h' none
theorem isAxi_fail {ax : Ax} {l : List Sp} {h : Heap} : ¬ isAxi ax l h .fail := by rintro ⟨_, _, e⟩; cases e
theorem isAxi_no {ax : Ax} {l : List Sp} {h hp : Heap} (e : axisV ax l = .tuple [.nilslice, .bool false]) (hx : h.next ≤ hp.next ∧ ∀ id, id < h.next → hp.get id = h.get id) : isAxi ax l h (.ret (.tuple [.nilslice, .bool false]) hp none) := ⟨hp, hx, by rw [e]⟩
theorem isAxi_yes {ax : Ax} {l : List Sp} {h hp : Heap} {t : List Sp} (e : axisV ax l = .tuple [.vslice (t.map spC.enc), .bool true]) (hx : h.next ≤ hp.next ∧ ∀ id, id < h.next → hp.get id = h.get id) : isAxi ax l h (.ret (.tuple [.vslice (t.map spC.enc), .bool true]) hp none) := ⟨hp, hx, by rw [e]⟩
theorem row_idx {H : Heap} {id k : Nat} {cur : List Sp} (hk : k < 13) (hg : H.get id = some (.rw 2 (cur.map spC.enc))) : indexAddrV Tryz.prog H 146 (.row id 0 13) (.int .i64 ↑k) = some (.eptr id 2 k 0) := by
 have h1 : idxV (.int .i64 ↑k) 13 = some k := by
  simp only [idxV]
  rw [if_pos (by omega)]
  simp
 simp only [indexAddrV, Tryz.underlying146, ty_lay48, h1, hg, if_true, Nat.zero_add]
theorem row_idx0 {H : Heap} {id : Nat} {cur : List Sp} (hg : H.get id = some (.rw 2 (cur.map spC.enc))) : indexAddrV Tryz.prog H 146 (.row id 0 13) (.int .i64 0) = some (.eptr id 2 0 0) := row_idx (k := 0) (by omega) hg
theorem row_at {k : Nat} {cur : List Sp} {p : Sp} (hp : cur[k]? = some p) : (cur.map spC.enc)[k]? = some (.agg [.int .i64 p.lo, .int .i64 p.hi]) := by simp [hp, spC]
theorem getD_of {k : Nat} {cur : List Sp} {p : Sp} (hp : cur[k]? = some p) : cur.getD k ⟨0, 0⟩ = p := by simp [List.getD, hp]
attribute [local irreducible] isAxi
set_option maxHeartbeats 2000000 in
theorem C159 (c : FuncId → Option (List AV → Heap → Option (AV × Heap))) (hc : c 159 = none) (hc2 : c 158 = some (pureFn sp158)) (ax : Ax) (l : List Sp) (ow : AV) (h : Heap) (hel : h.elems ow = some (l.map spC.enc)) (hout : outV (some ow) = some ow) (h13 : l.length = 13) :
  ClR (dX c) 159 [.agg [.int .i64 ax.chuck.lo, .int .i64 ax.chuck.hi], .agg [.int .i64 ax.wear.lo, .int .i64 ax.wear.hi], ow] h (isAxi ax l h) := by
 have hne : l.map spC.enc ≠ [] := by
  intro e
  have : l = [] := by simpa using e
  rw [this] at h13
  simp at h13
 have hsz : ∀ v ∈ l.map spC.enc, v.cells.length = 2 := by
  intro v hv
  obtain ⟨p, _, rfl⟩ := List.mem_map.1 hv
  rfl
 have hmost : ([] : List AV).length + (l.map spC.enc).length ≤ most := by simp only [List.length_nil, List.length_map, h13]; decide
 have H13 := Lib.hid h13
 clear h13
 refine ClR.walk (c := _) hc Tryz.func159 rfl (by kernel_rfl) rfl isAxi_fail ?_
 simp only [entryEnv, Nat.reduceAdd]
 repeat' (first | (apply WO1.appendN (t := 146) (u := 146) (e := 48) (e' := 48) (sz := 2) (tl := []) (b := h.next) (h0 := h) (l := []) (hb := BltN.nil) (hx := ⟨Nat.le_refl _, fun _ _ => rfl⟩); exact Z1; exact rfl; exact Z2; exact Z2; exact Z2; (focus (exact ty_row146)); exact Z1; (focus (exact hsz)); (focus (exact hmost)); (focus (exact hne)); (intro v' h' hB' ho' hX'; simp only [pM, pN])) | refine go1 ?_ | refine go2 (fun hh => ?_) (fun hh => ?_) | fail)
 rw [List.nil_append] at hB'
 obtain ⟨id, hu, hgr, hbid, hidn⟩ := hB'.row hne
 have hu13 : v' = .row id 0 13 := by rw [hu, List.length_map, H13.out]
 subst hu13
 obtain ⟨p0, hp0⟩ := get_some (show 0 < l.length by rw [H13.out]; omega)
 have hix := row_idx0 hgr
 have hrw := row_at hp0
 have hbig : hidn = hidn := rfl
 have HP0 := Lib.hid hp0
 clear hB' hu hne hsz hmost hel hp0 hbig
 repeat' (first | (apply W.drawQ (id := 2) (l1 := [0, 1, 2, 3, 4, 5, 6]) (l2 := [7]); kernel_rfl; kernel_rfl; kernel_rfl; exact Z4) | (apply W.drawQ (id := 6) (l1 := [0, 1, 2, 3, 4, 5, 6, 7, 8, 9, 10, 11, 12, 13, 14, 15, 16, 17, 18, 19, 20, 21, 22, 23, 24, 25, 26]) (l2 := [27]); kernel_rfl; kernel_rfl; kernel_rfl; exact Z4) | (apply W.drawQ (id := 10) (l1 := [0, 1, 2, 3, 4, 5, 6, 7, 8, 9, 10, 11, 12, 13, 14, 15, 16, 17, 18, 19, 20, 21, 22, 23, 24, 25, 26]) (l2 := [27]); kernel_rfl; kernel_rfl; kernel_rfl; exact Z4) | (apply W.drawQ (id := 14) (l1 := [0, 1, 2, 3, 4, 5, 6, 7, 8, 9, 10]) (l2 := []); kernel_rfl; kernel_rfl; kernel_rfl; exact Z4) | refine go1 ?_ | (apply U6; exact Z1; exact Z1; (focus (simp only [List.nil_append, List.append_nil]; first | exact K158 hc2 _ _ _ _ _)); simp only [pM, pN, rR, rP]) | refine go2 (fun hh => ?_) (fun hh => ?_) | fail)
 refine W.loopN 12 (fun k F => ∃ e lm hp, F = Fr.mk 159 false e lm hp [] none ∧ hp.get id = some (.rw 2 ((onR ax k l).map spC.enc)) ∧ (id < hp.next ∧ h.next ≤ hp.next ∧ ∀ id, id < h.next → hp.get id = h.get id) ∧
  lm.get 3 = some (0, [.int .i64 ax.chuck.lo, .int .i64 ax.chuck.hi]) ∧ lm.get 4 = some (0, [.int .i64 ax.wear.lo, .int .i64 ax.wear.hi]) ∧ e.get 3 = some (.lptr 3 0 0) ∧ e.get 4 = some (.lptr 4 0 0) ∧ e.get 8 = some (.row id 0 13) ∧ e.get 9 = some (.int .i64 ↑(k + 1)) ∧ k ≤ 12) ?_ ?_
 ·refine ⟨_, _, _, rfl, ?_, ?_, ?_, ?_, ?_, ?_, ?_, ?_, ?_⟩
  ·have hp0 := HP0.out
   simp only [onR, getD_of hp0]
   simp [Heap.get, Heap.put, List.map_set, spC, asElem, isAggV, interS]
  ·refine ⟨hidn, hX'.1, fun i hi => ?_⟩
   have hne : id ≠ i := by omega
   rw [← hX'.2 i hi]
   simp [Heap.get, Heap.put, hne]
  all_goals first | exact Z2 | simp [go_sem, *]
 clear hix hrw HP0 hgr hX' hidn ho' hout p0
 rintro k F ⟨e, lm, hp, rfl, hgid, hX, hl3, hl4, h3, h4, h8, h9, hk⟩
 have hlc : (onR ax k l).length = 13 := by rw [onR_len, H13.out]
 by_cases hlt : k < 12
 ·have hd : decide ((↑(k + 1) : Int) ≤ 12) = true := by simp; omega
  obtain ⟨pb, hpb⟩ := get_some (show k + 1 < (onR ax k l).length by omega)
  obtain ⟨pn, hpn⟩ := get_some (show k < (onR ax k l).length by omega)
  have hw1 : IntKind.i64.wrap (↑(k + 1) - 1) = ↑k := by rw [wrap_small (by omega) (by omega)]; omega
  have hw2 : IntKind.i64.wrap (↑(k + 1) + 1) = ↑(k + 1 + 1) := by rw [wrap_small (by omega) (by omega)]; omega
  have hrb := row_at hpb
  have hrn := row_at hpn
  have hixb := row_idx (show k + 1 < 13 by omega) hgid
  have hixn := row_idx (show k < 13 by omega) hgid
  have hon : onR ax (k + 1) l = (onR ax k l).set (k + 1) (interS pb (nxtS ax pn)) := by
   simp only [onR, getD_of hpb, getD_of hpn]
  have HON := Lib.hid hon
  clear hon hpb hpn hlc
  generalize onR ax k l = cur at hgid hrb hrn HON
  generalize hn : k + 1 = n at *
  repeat' (first | (apply W.drawQ (id := 2) (l1 := [0, 1, 2, 3, 4, 5, 6]) (l2 := [7]); kernel_rfl; kernel_rfl; kernel_rfl; exact Z4) | (apply W.drawQ (id := 6) (l1 := [0, 1, 2, 3, 4, 5, 6, 7, 8, 9, 10, 11, 12, 13, 14, 15, 16, 17, 18, 19, 20, 21, 22, 23, 24, 25, 26]) (l2 := [27]); kernel_rfl; kernel_rfl; kernel_rfl; exact Z4) | (apply W.drawQ (id := 10) (l1 := [0, 1, 2, 3, 4, 5, 6, 7, 8, 9, 10, 11, 12, 13, 14, 15, 16, 17, 18, 19, 20, 21, 22, 23, 24, 25, 26]) (l2 := [27]); kernel_rfl; kernel_rfl; kernel_rfl; exact Z4) | (apply W.drawQ (id := 14) (l1 := [0, 1, 2, 3, 4, 5, 6, 7, 8, 9, 10]) (l2 := []); kernel_rfl; kernel_rfl; kernel_rfl; exact Z4) | refine go1 ?_ | (apply U6; exact Z1; exact Z1; (focus (simp only [List.nil_append, List.append_nil]; first | exact K158 hc2 _ _ _ _ _)); simp only [pM, pN, rR, rP]) | refine go2 (fun hh => ?_) (fun hh => ?_) | fail)
  subst hn
  refine ⟨hlt, _, _, _, rfl, ?_, ?_, ?_, ?_, ?_, ?_, ?_, ?_, by omega⟩
  ·rw [HON.out]
   simp [Heap.get, Heap.put, List.map_set, spC, asElem, isAggV, interS, nxtS, w64]
  ·refine ⟨hX.1, hX.2.1, fun i hi => ?_⟩
   have hne : id ≠ i := by omega
   rw [← hX.2.2 i hi]
   simp [Heap.get, Heap.put, hne]
  all_goals exact Z2
 ·have hd : decide ((↑(k + 1) : Int) ≤ 12) = false := by simp; omega
  have hk12 : k = 12 := by omega
  subst hk12
  have HM := Lib.hid (show backS ax 12 (onR ax 12 l) = backS ax 12 (onR ax 12 l) from rfl)
  generalize hmid : onR ax 12 l = mid at *
  have hmv : axisV ax l = lookS (backS ax 12 mid) := by unfold axisV; rw [hmid]
  have HV := Lib.hid hmv
  have HGR := Lib.hid hgid
  have HLC := Lib.hid hlc
  clear hmid hmv hgid hlc hlt HM
  repeat' (first | refine goS ?_ | refine go2 (fun hh => ?_) (fun hh => ?_) | fail)
  refine W.loopN 12 (fun j F => ∃ e lm hp cur, F = Fr.mk 159 false e lm hp [] none ∧ backS ax (12 - j) cur = backS ax 12 mid ∧ cur.length = 13 ∧ hp.get id = some (.rw 2 (cur.map spC.enc)) ∧ (id < hp.next ∧ h.next ≤ hp.next ∧ ∀ id, id < h.next → hp.get id = h.get id) ∧
   lm.get 4 = some (0, [.int .i64 ax.wear.lo, .int .i64 ax.wear.hi]) ∧ e.get 4 = some (.lptr 4 0 0) ∧ e.get 8 = some (.row id 0 13) ∧ e.get 10 = some (.int .i64 ↑(12 - j)) ∧ j ≤ 12) ?_ ?_
  ·refine ⟨_, _, _, mid, rfl, rfl, HLC.out, HGR.out, hX, ?_, ?_, ?_, ?_, ?_⟩ <;> first | exact Z2 | simp [go_sem, *]
  clear hd h9 hl3 h3 hk
  rintro j F ⟨e, lm, hp, cur, rfl, hbw, hcl13, hgid, hX, hl4, h4, h8, h10, hj⟩
  have HBW := Lib.hid hbw
  have HC := Lib.hid hcl13
  clear hbw
  by_cases hjt : j < 12
  ·have hdj : decide ((↑(12 - j) : Int) > 0) = true := by simp; omega
   obtain ⟨pb, hpb⟩ := get_some (show 11 - j < cur.length by omega)
   obtain ⟨pn, hpn⟩ := get_some (show 12 - j < cur.length by omega)
   have hw1 : IntKind.i64.wrap (↑(12 - j) - 1) = ↑(11 - j) := by rw [wrap_small (by omega) (by omega)]; omega
   have hrb := row_at hpb
   have hrn := row_at hpn
   have hixb := row_idx (show 11 - j < 13 by omega) hgid
   have hixn := row_idx (show 12 - j < 13 by omega) hgid
   have hstep : backS ax (12 - j) cur = backS ax (11 - j) (cur.set (11 - j) (interS pb (prvS ax pn))) := by
    rw [show 12 - j = (11 - j) + 1 from by omega]
    show backS ax (11 - j) _ = _
    rw [getD_of hpb, show 11 - j + 1 = 12 - j from by omega, getD_of hpn]
   have HST := Lib.hid hstep
   clear hstep hpb hpn hcl13
   generalize hn : 12 - j = n at *
   generalize hn1 : 11 - j = n1 at *
   repeat' (first | (apply W.drawQ (id := 2) (l1 := [0, 1, 2, 3, 4, 5, 6]) (l2 := [7]); kernel_rfl; kernel_rfl; kernel_rfl; exact Z4) | (apply W.drawQ (id := 6) (l1 := [0, 1, 2, 3, 4, 5, 6, 7, 8, 9, 10, 11, 12, 13, 14, 15, 16, 17, 18, 19, 20, 21, 22, 23, 24, 25, 26]) (l2 := [27]); kernel_rfl; kernel_rfl; kernel_rfl; exact Z4) | (apply W.drawQ (id := 10) (l1 := [0, 1, 2, 3, 4, 5, 6, 7, 8, 9, 10, 11, 12, 13, 14, 15, 16, 17, 18, 19, 20, 21, 22, 23, 24, 25, 26]) (l2 := [27]); kernel_rfl; kernel_rfl; kernel_rfl; exact Z4) | (apply W.drawQ (id := 14) (l1 := [0, 1, 2, 3, 4, 5, 6, 7, 8, 9, 10]) (l2 := []); kernel_rfl; kernel_rfl; kernel_rfl; exact Z4) | refine go1 ?_ | (apply U6; exact Z1; exact Z1; (focus (simp only [List.nil_append, List.append_nil]; first | exact K158 hc2 _ _ _ _ _)); simp only [pM, pN, rR, rP]) | refine go2 (fun hh => ?_) (fun hh => ?_) | fail)
   refine ⟨hjt, _, _, _, cur.set n1 (interS pb (prvS ax pn)), rfl, ?_, ?_, ?_, ?_, ?_, ?_, ?_, ?_, by omega⟩
   ·rw [show 12 - (j + 1) = n1 from by omega, ← HBW.out, HST.out]
   ·rw [List.length_set]; exact HC.out
   ·simp [Heap.get, Heap.put, List.map_set, spC, asElem, isAggV, interS, prvS, w64]
   ·refine ⟨hX.1, hX.2.1, fun i hi => ?_⟩
    have hne : id ≠ i := by omega
    rw [← hX.2.2 i hi]
    simp [Heap.get, Heap.put, hne]
   ·simp only [go_sem, *, Nat.reduceLT, Int.reduceEq, Int.reduceBEq, Int.reduceLE, Int.reduceLT, Nat.reduceAdd, Nat.reduceBEq, Nat.reduceEqDiff, reduceIte, Nat.reduceLeDiff, Nat.reduceMul, Nat.reduceSub, reduceCtorEq]; done
   ·simp only [go_sem, *, Nat.reduceLT, Int.reduceEq, Int.reduceBEq, Int.reduceLE, Int.reduceLT, Nat.reduceAdd, Nat.reduceBEq, Nat.reduceEqDiff, reduceIte, Nat.reduceLeDiff, Nat.reduceMul, Nat.reduceSub, reduceCtorEq]; done
   ·simp only [go_sem, *, Nat.reduceLT, Int.reduceEq, Int.reduceBEq, Int.reduceLE, Int.reduceLT, Nat.reduceAdd, Nat.reduceBEq, Nat.reduceEqDiff, reduceIte, Nat.reduceLeDiff, Nat.reduceMul, Nat.reduceSub, reduceCtorEq]; done
   ·rw [show 12 - (j + 1) = n1 from by omega]
    simp only [go_sem, *, Nat.reduceLT, Int.reduceEq, Int.reduceBEq, Int.reduceLE, Int.reduceLT, Nat.reduceAdd, Nat.reduceBEq, Nat.reduceEqDiff, reduceIte, Nat.reduceLeDiff, Nat.reduceMul, Nat.reduceSub, reduceCtorEq]
  ·have hdj : decide ((↑(12 - j) : Int) > 0) = false := by simp; omega
   have hj12 : j = 12 := by omega
   have hbc : cur = backS ax 12 mid := by rw [← HBW.out, hj12]; rfl
   have hmv : axisV ax l = lookS cur := by rw [HV.out, hbc]
   have HV2 := Lib.hid hmv
   clear hbc hj12 hcl13 hmv
   repeat' (first | refine goS ?_ | refine go2 (fun hh => ?_) (fun hh => ?_) | fail)
   refine W.loopN 13 (fun k F => ∃ e lm, F = Fr.mk 159 false e lm hp [] none ∧ (cur.take k).any empS = false ∧ e.get 8 = some (.row id 0 13) ∧ e.get 11 = some (.int .i64 ↑k) ∧ k ≤ 13) ?_ ?_
   ·refine ⟨_, _, rfl, ?_, ?_, ?_, ?_⟩ <;> first | exact Z2 | simp [go_sem, *]
   clear h10 hl4 h4 h8 hdj
   rintro k F ⟨e, lm, rfl, hany, h8, h11, hk⟩
   have HA := Lib.hid hany
   clear hany
   by_cases hkt : k < 13
   ·have hdk : decide ((k : Int) ≤ 12) = true := by simp; omega
    obtain ⟨pk, hpk⟩ := get_some (show k < cur.length by rw [HC.out]; omega)
    have hrk := row_at hpk
    have hixk := row_idx hkt hgid
    have hwk := wrap_succ hkt (by unfold maxL; omega)
    have hnx := take_next hpk
    have HNX := Lib.hid hnx
    have hno : empS pk = true → axisV ax l = .tuple [.nilslice, .bool false] := fun he => by
     have : cur.any empS = true := List.any_eq_true.2 ⟨pk, List.mem_of_getElem? hpk, he⟩
     rw [HV2.out, lookS, this]
     rfl
    have HNO := Lib.hid hno
    clear hnx hno hpk
    by_cases hem : pk.lo > pk.hi
    ·have hde : decide (pk.lo > pk.hi) = true := by simpa using hem
     have hv := HNO.out (by simpa [empS] using hem)
     have HVV := Lib.hid hv
     clear hv hem
     repeat' (first | (apply W.drawQ (id := 2) (l1 := [0, 1, 2, 3, 4, 5, 6]) (l2 := [7]); kernel_rfl; kernel_rfl; kernel_rfl; exact Z4) | (apply W.drawQ (id := 6) (l1 := [0, 1, 2, 3, 4, 5, 6, 7, 8, 9, 10, 11, 12, 13, 14, 15, 16, 17, 18, 19, 20, 21, 22, 23, 24, 25, 26]) (l2 := [27]); kernel_rfl; kernel_rfl; kernel_rfl; exact Z4) | (apply W.drawQ (id := 10) (l1 := [0, 1, 2, 3, 4, 5, 6, 7, 8, 9, 10, 11, 12, 13, 14, 15, 16, 17, 18, 19, 20, 21, 22, 23, 24, 25, 26]) (l2 := [27]); kernel_rfl; kernel_rfl; kernel_rfl; exact Z4) | (apply W.drawQ (id := 14) (l1 := [0, 1, 2, 3, 4, 5, 6, 7, 8, 9, 10]) (l2 := []); kernel_rfl; kernel_rfl; kernel_rfl; exact Z4) | refine go1 ?_ | refine go2 (fun hh => ?_) (fun hh => ?_) | fail)
     all_goals (simp only [resV_def (X := dX c) Tryz.func159, Tryz.results159]; first | exact J5 | refine J6 ?_)
     exact isAxi_no HVV.out hX.2
    ·have hde : decide (pk.lo > pk.hi) = false := by simpa using hem
     have hee : empS pk = false := by simpa [empS] using hem
     have HE := Lib.hid hee
     clear hem hee
     repeat' (first | (apply W.drawQ (id := 2) (l1 := [0, 1, 2, 3, 4, 5, 6]) (l2 := [7]); kernel_rfl; kernel_rfl; kernel_rfl; exact Z4) | (apply W.drawQ (id := 6) (l1 := [0, 1, 2, 3, 4, 5, 6, 7, 8, 9, 10, 11, 12, 13, 14, 15, 16, 17, 18, 19, 20, 21, 22, 23, 24, 25, 26]) (l2 := [27]); kernel_rfl; kernel_rfl; kernel_rfl; exact Z4) | (apply W.drawQ (id := 10) (l1 := [0, 1, 2, 3, 4, 5, 6, 7, 8, 9, 10, 11, 12, 13, 14, 15, 16, 17, 18, 19, 20, 21, 22, 23, 24, 25, 26]) (l2 := [27]); kernel_rfl; kernel_rfl; kernel_rfl; exact Z4) | (apply W.drawQ (id := 14) (l1 := [0, 1, 2, 3, 4, 5, 6, 7, 8, 9, 10]) (l2 := []); kernel_rfl; kernel_rfl; kernel_rfl; exact Z4) | refine go1 ?_ | refine go2 (fun hh => ?_) (fun hh => ?_) | fail)
     refine ⟨hkt, _, _, rfl, ?_, ?_, ?_, by omega⟩
     ·have h1 := HA.out
      have h2 := HE.out
      rw [HNX.out]
      simp [h1, h2]
     all_goals exact Z2
   ·have hdk : decide ((k : Int) ≤ 12) = false := by simp; omega
    have hk13 : k = 13 := by omega
    have hany := HA.out
    rw [hk13, List.take_of_length_le (by rw [HC.out]; omega)] at hany
    have hsl : slN (cur.map spC.enc) = .vslice (cur.map spC.enc) := by
     have h13 := HC.out
     cases cur with
     | nil => simp at h13
     | cons x r => rfl
    have hv : axisV ax l = .tuple [.vslice (cur.map spC.enc), .bool true] := by
     rw [HV2.out, lookS, hany, hsl]
     rfl
    have HVV := Lib.hid hv
    have hz : frz1 hp (.row id 0 13) = some (.vslice (cur.map spC.enc), hp.del id) := by
     simp only [frz1, hgid, List.length_map, HC.out, Nat.zero_add, Nat.le_refl, if_true, List.drop_zero]
     rw [List.take_of_length_le (by simp [HC.out])]
    have hz2 : frz2 hp (.row id 0 13) = some (.vslice (cur.map spC.enc), hp.del id) := hz
    clear hv hany hsl hk13
    repeat' (first | (apply W.drawQ (id := 2) (l1 := [0, 1, 2, 3, 4, 5, 6]) (l2 := [7]); kernel_rfl; kernel_rfl; kernel_rfl; exact Z4) | (apply W.drawQ (id := 6) (l1 := [0, 1, 2, 3, 4, 5, 6, 7, 8, 9, 10, 11, 12, 13, 14, 15, 16, 17, 18, 19, 20, 21, 22, 23, 24, 25, 26]) (l2 := [27]); kernel_rfl; kernel_rfl; kernel_rfl; exact Z4) | (apply W.drawQ (id := 10) (l1 := [0, 1, 2, 3, 4, 5, 6, 7, 8, 9, 10, 11, 12, 13, 14, 15, 16, 17, 18, 19, 20, 21, 22, 23, 24, 25, 26]) (l2 := [27]); kernel_rfl; kernel_rfl; kernel_rfl; exact Z4) | (apply W.drawQ (id := 14) (l1 := [0, 1, 2, 3, 4, 5, 6, 7, 8, 9, 10]) (l2 := []); kernel_rfl; kernel_rfl; kernel_rfl; exact Z4) | refine go1 ?_ | refine go2 (fun hh => ?_) (fun hh => ?_) | fail)
    all_goals try (simp only [resV_def (X := dX c) Tryz.func159, Tryz.results159]; first | exact J5 | refine J6 ?_)
    refine isAxi_yes HVV.out ⟨hX.2.1, fun i hi => ?_⟩
    have hne : id ≠ i := by omega
    rw [← hX.2.2 i hi]
    simp [Heap.get, Heap.del, hne]
end Go.AM
namespace Go.AM
open Go Go.Proofs
variable [Keep]
attribute [local irreducible] W WO WO1 WD WQ WT thenQ blockQ endR isRet retK Cl ClR
theorem calm_cons {X : Ctx} {f : FuncId} {ops : Array Oper} {ts : List (Nat × Trace)} {i k : Nat} {r : List (Nat × Nat)} {y : Oper} {d : Option Tmp} {op : Op} {T : TypeId} {ps : String} {af : Array Edge}
  {f1 f2 : FuncId} {r1 r2 : Bool} {e1 e2 : Mp AV} {lm1 lm2 : Mp (Nat × List AV)} {hp1 hp2 : Heap} {df1 df2 : List (AV × List AV)} {up1 up2 : Option (AV × Bool)} {v1 v2 : AV} {a1 b2 : Fr}
  (h1 : ops[i]? = some ⟨d, op, T, ps, af, none⟩) (h2 : ops[k]? = some y) (h3 : traceOf ts i = some ⟨Fr.mk f1 r1 e1 lm1 hp1 df1 up1, v1, a1⟩) (h4 : traceOf ts k = some ⟨b2, v2, Fr.mk f2 r2 e2 lm2 hp2 df2 up2⟩)
  (h5 : isEffD X f ⟨d, op, T, ps, af, none⟩ = false) (h7 : rdV X (Fr.mk f1 r1 e1 lm2 hp2 df1 up1) d op = some v1) (h8 : r.all (calmPair X f ops ts) = true) : ((i, k) :: r).all (calmPair X f ops ts) = true := by
 simp only [List.all_cons, h8, Bool.and_true, calmPair, h1, h2, h3, h4, h5, Bool.false_eq_true, if_false, rereads, wantedA, if_true, h7]
 exact AV.same_refl _
theorem calm_nil {X : Ctx} {f : FuncId} {ops : Array Oper} {ts : List (Nat × Trace)} : ([] : List (Nat × Nat)).all (calmPair X f ops ts) = true := rfl
theorem C102 (c : FuncId → Option (List AV → Heap → Option (AV × Heap))) (hc : c 102 = none) (sa ra : AV) (cx cy wx wy : Sp) (hfs : ∀ hp : Heap, frz1 hp sa = some (sa, hp)) (hfr : ∀ hp : Heap, frz1 hp ra = some (ra, hp)) (n : Nat) (m : Mp Blk) :
  Cl (dX c) 102 [.agg [sa, .int .i64 cx.lo, .int .i64 cx.hi, .int .i64 cy.lo, .int .i64 cy.hi, .int .i64 wx.lo, .int .i64 wx.hi, .int .i64 wy.lo, .int .i64 wy.hi, ra]] ⟨n, m⟩
   (.ret (.agg [sa, .int .i64 cx.lo, .int .i64 cx.hi, .int .i64 cy.lo, .int .i64 cy.hi, .int .i64 wx.lo, .int .i64 wx.hi, .int .i64 wy.lo, .int .i64 wy.hi, ra, .map n]) ⟨n + 1, m.set n (.mp [])⟩ none) := by
 refine ClR.cl ?_
 refine ClR.walk (c := _) hc Tryz.func102 rfl (by kernel_rfl) rfl (fun e => by cases e) ?_
 simp only [entryEnv, Nat.reduceAdd]
 repeat' (first | (apply U5; exact rfl; (focus (intro cl rd; simp only [go_sem, *, Nat.reduceLT, Int.reduceEq, Int.reduceBEq, Int.reduceLE, Int.reduceLT, Nat.reduceAdd, Nat.reduceBEq, Nat.reduceEqDiff, reduceIte, Nat.reduceLeDiff, Nat.reduceMul, Nat.reduceSub, reduceCtorEq, efV, Fr.mapE, Heap.new]; with_reducible rfl)); simp only [pM, pN]) | refine go1 ?_ | refine go2 (fun hh => ?_) (fun hh => ?_) | fail)
 all_goals (simp only [resV_def (X := dX c) Tryz.func102, Tryz.results102]; first | exact J5 | refine J6 ?_)
 have e1 : ∀ (h : Heap) k n, frz1 h (.int k n) = some (.int k n, h) := fun _ _ _ => rfl
 have e2 : ∀ (h : Heap) n, frz1 h (.map n) = some (.map n, h) := fun _ _ => rfl
 simp only [isR, frzRes, dX_frz, dFrz, freeze, frz2, frzCells, hfs, hfr, e1, e2, if_true]
theorem bwdS_len (ax : Ax) : ∀ n (out t : List Sp), bwdS ax n out = some t → t.length = out.length := by
 intro n
 induction n with
 | zero => intro out t h; simp [bwdS] at h; rw [h]
 | succ n ih =>
  intro out t h
  rw [bwdS_succ] at h
  split at h
  ·cases h
  ·rw [ih _ _ h]; simp
theorem boundsS_len {ax : Ax} {o : List Sp} (h : boundsS ax = some o) : o.length = 13 := by
 rw [boundsS_def] at h
 cases hf : fwdS ax 13 with
 | none => rw [hf] at h; cases h
 | some out =>
  rw [hf] at h
  rw [bwdS_len ax 12 out o h, fwdS_len ax 13 out hf]
theorem sp_idx {l : List Sp} {k : Nat} {p : Sp} (hp : l[k]? = some p) (H : Heap) : indexAddrV Tryz.prog H 146 (.vslice (l.map spC.enc)) (.int .i64 ↑k) = some (.vptr [.int .i64 p.lo, .int .i64 p.hi]) :=
 isSl.idx (es := l.map spC.enc) (.inr rfl) (x := spC.enc p) Tryz.underlying146 ty_lay48 (by simp [hp]) rfl
theorem K103h {X : Ctx} (hX : X.intr 103 = some (onHeap h103)) (sa ra mv : AV) (cx cy wx wy : Sp) (rs : List Rdg) (hr : slV rdgC ra = some rs) (hs : sa.one = true) (hm : mv.one = true) (h : Heap) :
  Cl X 103 [.agg [sa, .int .i64 cx.lo, .int .i64 cx.hi, .int .i64 cy.lo, .int .i64 cy.hi, .int .i64 wx.lo, .int .i64 wx.hi, .int .i64 wy.lo, .int .i64 wy.hi, ra, mv], .nilslice] h (.ret (knV (ax0 cx wx rs []) (ax1 cy wy rs [])) h none) :=
 Cl.intr hX (by
  have h1 : slV heldC .nilslice = some [] := rfl
  have h2 : (Nat.ble (rs.length + ([] : List Held).length) maxL && sa.one && mv.one) = true := by
   rw [hs, hm]
   simp [Nat.ble_eq]
   exact sl_max hr
  simp only [onHeap, h103, sp103, hr, h1, h2, if_true])
theorem ix147_0 (H : Heap) (s g : Nat) : indexAddrV Tryz.prog H 147 (.lptr s g 0) (.int .i64 0) = some (.lptr s g 0) := by
 simp only [indexAddrV, Tryz.underlying147, ty_lay146]
 rfl
theorem ix147_1 (H : Heap) (s g : Nat) : indexAddrV Tryz.prog H 147 (.lptr s g 0) (.int .i64 1) = some (.lptr s g 1) := by
 simp only [indexAddrV, Tryz.underlying147, ty_lay146]
 rfl
noncomputable def cS : FuncId → Option (List AV → Heap → Option (AV × Heap))
 | 93 => some (pureFn sp93)
 | 101 => some (flatFn sp101)
 | 103 => some (onHeap h103)
 | _ => none
theorem cS_sound : Sound (dX cS) := dX_sound (fun f g h => by
 unfold cS at h
 split at h
 ·cases h; exact F93
 ·cases h; exact F101
 ·cases h; exact H103
 ·cases h)
def spanO : AV := .agg [.int .i64 0, .int .i64 0]
def knownV (ok : Bool) (A B : Option (List Sp)) (blank : Int) : AV :=
 if ok && inB blank 0 12 then (match A, B with
  | some a, some b => .tuple [spC.enc (a.getD blank.toNat ⟨0, 0⟩), spC.enc (b.getD blank.toNat ⟨0, 0⟩), .int .i64 0]
  | _, _ => .tuple [spanO, spanO, .int .i64 7]) else .tuple [spanO, spanO, .int .i64 2]
def sp39 : List AV → Option AV
 | [.agg [sa, .int .i64 cxl, .int .i64 cxh, .int .i64 cyl, .int .i64 cyh, .int .i64 wxl, .int .i64 wxh, .int .i64 wyl, .int .i64 wyh, ra], .int .i64 blank] => match slV ptC sa, slV rdgC ra with
  | some st, some rs => some (knownV (machB st ⟨cxl, cxh⟩ ⟨cyl, cyh⟩ ⟨wxl, wxh⟩ ⟨wyl, wyh⟩ rs) (boundsS (ax0 ⟨cxl, cxh⟩ ⟨wxl, wxh⟩ rs [])) (boundsS (ax1 ⟨cyl, cyh⟩ ⟨wyl, wyh⟩ rs [])) blank)
  | _, _ => none
 | _ => none
theorem knownV_pur (ok : Bool) (A B : Option (List Sp)) (blank : Int) : (knownV ok A B blank).pur = true := by
 unfold knownV
 split
 ·split <;> rfl
 ·rfl
theorem p39 : ∀ args v, sp39 args = some v → v.pur = true := by
 intro args v h
 unfold sp39 at h
 split at h
 ·split at h
  ·cases h; exact knownV_pur _ _ _ _
  ·cases h
 ·cases h
theorem sl_one {α : Type} {c : Cd α} {a : AV} {l : List α} (h : slV c a = some l) : a.one = true ∧ isTuple a = false := by
 rcases (slV_is h).1 with ⟨rfl | rfl, _⟩ | rfl <;> exact ⟨rfl, rfl⟩
set_option maxHeartbeats 2000000 in
theorem F39 : IntrFn Tryz.prog 39 (pureFn sp39) := by
 refine pure_fn (X := dX cS) cS_sound p39 ?_
 intro args v h
 unfold sp39 at h
 split at h
 ·rename_i sa cxl cxh cyl cyh wxl wxh wyl wyh ra blank
  split at h
  ·rename_i st rs hl hr
   cases h
   have hlen := sl_len hr
   have hout := sl_out hr
   have hout2 := sl_out hl
   obtain ⟨hone, htup⟩ := sl_one hl
   obtain ⟨hone2, htup2⟩ := sl_one hr
   have hm := fun hp => K101 (X := dX cS) rfl sa ra st rs ⟨cxl, cxh⟩ ⟨cyl, cyh⟩ ⟨wxl, wxh⟩ ⟨wyl, wyh⟩ hl hr hp
   have hk : ∀ (hp : Heap) (mv : AV), mv.one = true → Cl (dX cS) 103 [.agg [sa, .int .i64 cxl, .int .i64 cxh, .int .i64 cyl, .int .i64 cyh, .int .i64 wxl, .int .i64 wxh, .int .i64 wyl, .int .i64 wyh, ra, mv], .nilslice] hp (.ret (knV (ax0 ⟨cxl, cxh⟩ ⟨wxl, wxh⟩ rs []) (ax1 ⟨cyl, cyh⟩ ⟨wyl, wyh⟩ rs [])) hp none) :=
    fun hp mv hmv => K103h (X := dX cS) rfl sa ra mv ⟨cxl, cxh⟩ ⟨cyl, cyh⟩ ⟨wxl, wxh⟩ ⟨wyl, wyh⟩ rs hr hone hmv hp
   have h102 := fun n m => C102 cS rfl sa ra ⟨cxl, cxh⟩ ⟨cyl, cyh⟩ ⟨wxl, wxh⟩ ⟨wyl, wyh⟩ (slV_is hl).1.frz1 (slV_is hr).1.frz1 n m
   generalize machB st ⟨cxl, cxh⟩ ⟨cyl, cyh⟩ ⟨wxl, wxh⟩ ⟨wyl, wyh⟩ rs = ok at *
   generalize ax0 ⟨cxl, cxh⟩ ⟨wxl, wxh⟩ rs [] = A at *
   generalize ax1 ⟨cyl, cyh⟩ ⟨wyl, wyh⟩ rs [] = B at *
   have HM := Lib.hid hm
   have H102 := Lib.hid h102
   clear hl hr hm h102
   refine ClR.walk (c := _) rfl Tryz.func39 rfl (by kernel_rfl) rfl isRet_fail ?_
   simp only [entryEnv, Nat.reduceAdd, emptyHp]
   cases hok : ok with
   | false =>
    clear hk
    have hres : knownV false (boundsS A) (boundsS B) blank = .tuple [.agg [.int .i64 0, .int .i64 0], .agg [.int .i64 0, .int .i64 0], .int .i64 2] := by simp [knownV, spanO]
    rw [hres]
    clear hres
    repeat' (first | refine goS ?_ | (apply U6; exact Z1; exact Z1; (focus (simp only [List.nil_append, List.append_nil]; first | exact K93 rfl _ _ _ _ | exact HM.out _)); simp only [pM, pN, rR, rP]) | refine go2 (fun hh => ?_) (fun hh => ?_) | fail)
    all_goals (simp only [resV_def (X := dX cS) Tryz.func39, Tryz.results39]; first | exact J5 | refine J6 ?_)
   | true =>
    cases hin : inB blank 0 12 with
    | false =>
     clear hk
     have hres : knownV true (boundsS A) (boundsS B) blank = .tuple [.agg [.int .i64 0, .int .i64 0], .agg [.int .i64 0, .int .i64 0], .int .i64 2] := by simp [knownV, spanO, hin]
     rw [hres]
     clear hres
     repeat' (first | refine goS ?_ | (apply U6; exact Z1; exact Z1; (focus (simp only [List.nil_append, List.append_nil]; first | exact K93 rfl _ _ _ _ | exact HM.out _)); simp only [pM, pN, rR, rP]) | refine go2 (fun hh => ?_) (fun hh => ?_) | fail)
     all_goals (simp only [resV_def (X := dX cS) Tryz.func39, Tryz.results39]; first | exact J5 | refine J6 ?_)
    | true =>
     have hb := hin
     simp only [inB, Bool.and_eq_true, decide_eq_true_eq] at hb
     obtain ⟨k, rfl⟩ : ∃ k : Nat, blank = k := ⟨blank.toNat, by omega⟩
     rw [knV_def] at hk
     have none1 : ∀ (o p : Option (List Sp)), o = none ∨ p = none → knO o p = .tuple [.agg [.nilslice, .nilslice], .bool false] ∧ knownV true o p ↑k = .tuple [.agg [.int .i64 0, .int .i64 0], .agg [.int .i64 0, .int .i64 0], .int .i64 7] := by
      intro o p ho
      rcases ho with rfl | rfl
      ·exact ⟨rfl, by simp [knownV, spanO, hin]⟩
      ·cases o <;> exact ⟨rfl, by simp [knownV, spanO, hin]⟩
     by_cases hAB : boundsS A = none ∨ boundsS B = none
     ·obtain ⟨e1, e2⟩ := none1 _ _ hAB
      rw [e1] at hk
      rw [e2]
      have HK := Lib.hid hk
      clear hk e1 e2 hAB none1 hb
      repeat' (first | (apply W.draw (id := 6) (lc := [0, 1, 2, 3, 4, 5, 6, 7, 8, 9, 10, 11, 12]) (hot := [(5, 10), (6, 10), (8, 10), (9, 10)]); kernel_rfl; kernel_rfl; kernel_rfl; exact Z4) | (refine WD.cons rfl rfl ?_) | (refine WD.nil ⟨?_, ?_⟩) | (refine calm_nil) | (refine calm_cons rfl rfl rfl rfl rfl ?_ ?_; (focus (first | exact Z2 | exact Z1))) | (simp only [tN, bN, eN, true_and]) | refine go1 ?_ | (apply U6; exact Z1; exact Z1; (focus (simp only [List.nil_append, List.append_nil]; first | exact K93 rfl _ _ _ _ | exact HM.out _ | exact H102.out _ _ | exact HK.out _ _ rfl)); simp only [pM, pN, rR, rP]) | refine go2 (fun hh => ?_) (fun hh => ?_) | fail)
      all_goals (simp only [resV_def (X := dX cS) Tryz.func39, Tryz.results39]; first | exact J5 | refine J6 ?_)
     ·obtain ⟨a, hA⟩ : ∃ a, boundsS A = some a := by cases h : boundsS A with | none => exact absurd (.inl h) hAB | some a => exact ⟨a, rfl⟩
      obtain ⟨b, hB⟩ : ∃ b, boundsS B = some b := by cases h : boundsS B with | none => exact absurd (.inr h) hAB | some a => exact ⟨a, rfl⟩
      have hla := boundsS_len hA
      have hlb := boundsS_len hB
      obtain ⟨p, hp⟩ := get_some (show k < a.length by omega)
      obtain ⟨q, hq⟩ := get_some (show k < b.length by omega)
      have ea : slN (a.map spC.enc) = .vslice (a.map spC.enc) := by cases a with | nil => simp at hla | cons x l => rfl
      have eb : slN (b.map spC.enc) = .vslice (b.map spC.enc) := by cases b with | nil => simp at hlb | cons x l => rfl
      have e1 : knO (some a) (some b) = .tuple [.agg [.vslice (a.map spC.enc), .vslice (b.map spC.enc)], .bool true] := by
       rw [← ea, ← eb]; rfl
      have e2 : knownV true (some a) (some b) ↑k = .tuple [.agg [.int .i64 p.lo, .int .i64 p.hi], .agg [.int .i64 q.lo, .int .i64 q.hi], .int .i64 0] := by
       simp [knownV, hin, List.getD, hp, hq, spC]
      rw [hA, hB, e1] at hk
      rw [hA, hB, e2]
      have HK := Lib.hid hk
      have hi1 := sp_idx hp
      have hi2 := sp_idx hq
      generalize a.map spC.enc = la at *
      generalize b.map spC.enc = lb at *
      have h0 := ix147_0
      have h1 := ix147_1
      clear hk e1 e2 hAB none1 hb hA hB hla hlb hp hq ea eb
      repeat' (first | (apply W.draw (id := 6) (lc := [0, 1, 2, 3, 4, 5, 6, 7, 8, 9, 10, 11, 12]) (hot := [(5, 10), (6, 10), (8, 10), (9, 10)]); kernel_rfl; kernel_rfl; kernel_rfl; exact Z4) | (refine WD.cons rfl rfl ?_) | (refine WD.nil ⟨?_, ?_⟩) | (refine calm_nil) | (refine calm_cons rfl rfl rfl rfl rfl ?_ ?_; (focus (first | exact Z2 | exact Z1))) | (simp only [tN, bN, eN, true_and]) | refine go1 ?_ | (apply U6; exact Z1; exact Z1; (focus (simp only [List.nil_append, List.append_nil]; first | exact K93 rfl _ _ _ _ | exact HM.out _ | exact H102.out _ _ | exact HK.out _ _ rfl)); simp only [pM, pN, rR, rP]) | refine go2 (fun hh => ?_) (fun hh => ?_) | fail)
      all_goals (simp only [resV_def (X := dX cS) Tryz.func39, Tryz.results39]; first | exact J5 | refine J6 ?_)
  ·cases h
 ·cases h
end Go.AM
namespace Go.AM
open Go Go.Proofs
variable [Keep]
attribute [local irreducible] W WO WO1 WD WQ WT thenQ blockQ endR isRet retK Cl ClR
def marksOf (rs : List Rdg) : List Held := rs.map fun r => ⟨r.b, ⟨w64 (r.x - r.err), w64 (r.x + r.err)⟩, ⟨w64 (r.y - r.err), w64 (r.y + r.err)⟩⟩
def sp106 : List AV → Option AV
 | [.agg [sa, .int .i64 cxl, .int .i64 cxh, .int .i64 cyl, .int .i64 cyh, .int .i64 wxl, .int .i64 wxh, .int .i64 wyl, .int .i64 wyh, ra]] => match slV ptC sa, slV rdgC ra with
  | some _, some rs => some (slN ((marksOf rs).map heldC.enc))
  | _, _ => none
 | _ => none
theorem p106 : ∀ args v, sp106 args = some v → v.pur = true := by
 intro args v h
 unfold sp106 at h
 split at h
 ·split at h
  ·cases h; exact slN_pur (enc_pur heldC _)
  ·cases h
 ·cases h
noncomputable def cV : FuncId → Option (List AV → Heap → Option (AV × Heap))
 | 158 => some (pureFn sp158)
 | _ => none
theorem cV_sound : Sound (dX cV) := dX_sound (fun f g h => by
 unfold cV at h
 split at h
 ·cases h; exact F158
 ·cases h)
set_option maxHeartbeats 1000000 in
theorem F106 : IntrFn Tryz.prog 106 (pureFn sp106) := by
 refine pure_fn (X := dX cV) cV_sound p106 ?_
 intro args v h
 unfold sp106 at h
 split at h
 ·rename_i sa cxl cxh cyl cyh wxl wxh wyl wyh ra
  split at h
  ·rename_i st rs hl hr
   cases h
   have hlen := sl_len hr
   have hout := sl_out hr
   have hmax := sl_max hr
   have hout2 := sl_out hl
   clear hl
   refine ClR.walk (c := _) rfl Tryz.func106 rfl (by kernel_rfl) rfl isRet_fail ?_
   simp only [entryEnv, Nat.reduceAdd]
   repeat' (first | refine goS ?_ | refine go2 (fun hh => ?_) (fun hh => ?_) | fail)
   refine W.loopN rs.length (fun k F => ∃ e lm hp u, F = Fr.mk 106 false e lm hp [] none ∧ Blt hp u 5 ((marksOf (rs.take k)).map heldC.enc) ∧ lm.get 1 = some (0, [sa, .int .i64 cxl, .int .i64 cxh, .int .i64 cyl, .int .i64 cyh, .int .i64 wxl, .int .i64 wxh, .int .i64 wyl, .int .i64 wyh, ra]) ∧ e.get 1 = some (.lptr 1 0 0) ∧ e.get 3 = some u ∧ e.get 4 = some (.int .i64 ↑k) ∧ k ≤ rs.length) ?_ ?_
   ·refine ⟨_, _, _, _, rfl, Blt.nil, ?_, ?_, ?_, ?_, ?_⟩ <;> first | exact Z2 | simp [go_sem, *]
   rintro k F ⟨e, lm, hp, u, rfl, hB, hl1, h1, h3, h4, hk⟩
   have hbo := hB.out
   by_cases hlt : k < rs.length
   ·obtain ⟨p, hp'⟩ := get_some hlt
    have hix := rdg_idx hr hp'
    have hd : decide ((k : Int) < (rs.length : Int)) = true := by simpa using hlt
    have hw := wrap_succ hlt hmax
    have hnx : marksOf (rs.take (k + 1)) = marksOf (rs.take k) ++ [⟨p.b, ⟨w64 (p.x - p.err), w64 (p.x + p.err)⟩, ⟨w64 (p.y - p.err), w64 (p.y + p.err)⟩⟩] := by rw [take_next hp']; simp [marksOf]
    have hll : ((marksOf (rs.take k)).map heldC.enc).length + 1 ≤ most := by
     simp only [marksOf, List.length_map, List.length_take]; unfold most; unfold maxL at hmax; omega
    have HX := Lib.hid hnx
    clear hr hp' hnx
    repeat' (first | (apply WO1.append (t := 156) (u := 156) (e := 181) (e' := 181) (sz := 5) (tl := []); (focus assumption); exact Z1; exact rfl; exact Z2; exact Z2; exact Z2; (focus (exact ty_row156)); exact Z1; (focus (intro v hv; simp at hv; rcases hv with rfl | rfl <;> rfl)); (focus (simp only [List.length_cons, List.length_nil]; exact hll)); (focus (simp)); (intro v' h' hB' ho' hK'; simp only [pM, pN])) | refine go1 ?_ | refine go2 (fun hh => ?_) (fun hh => ?_) | fail)
    refine ⟨hlt, _, _, _, v', rfl, ?_, ?_, ?_, ?_, ?_, by omega⟩
    ·rw [HX.out]; simpa [heldC, w64] using hB'
    all_goals exact Z2
   ·have hd : decide ((k : Int) < (rs.length : Int)) = false := by simpa using hlt
    have hkl : k = rs.length := by omega
    rw [hkl, List.take_length] at hB
    obtain ⟨h', hz, hz2, hz1⟩ := hB.freeze
    clear hkl hr
    repeat' (first | refine goS ?_ | refine go2 (fun hh => ?_) (fun hh => ?_) | fail)
    all_goals (simp only [resV_def (X := dX cV) Tryz.func106, Tryz.results106]; first | exact J5 | refine J6 ?_)
  ·cases h
 ·cases h
theorem K106 {X : Ctx} (hX : X.intr 106 = some (pureFn sp106)) (sa ra : AV) (st : List Pt) (rs : List Rdg) (cx cy wx wy : Sp) (hl : slV ptC sa = some st) (hr : slV rdgC ra = some rs) (h : Heap) :
  Cl X 106 [.agg [sa, .int .i64 cx.lo, .int .i64 cx.hi, .int .i64 cy.lo, .int .i64 cy.hi, .int .i64 wx.lo, .int .i64 wx.hi, .int .i64 wy.lo, .int .i64 wy.hi, ra]] h (.ret (slN ((marksOf rs).map heldC.enc)) h none) :=
 Cl.intr hX (by simp [pureFn, AV.pur, AV.purL, sl_pur hl, sl_pur hr, sp106, hl, hr])
def h159 (args : List AV) (h : Heap) : Option AV :=
 match args with
 | [.agg [.int .i64 cl, .int .i64 ch], .agg [.int .i64 wl, .int .i64 wh], .row id off len] => (match h.get id with
  | some (.rw sz el) => if (Nat.beq sz 2 && Nat.ble (off + len) el.length && AV.purL el) = true then (match decL spC ((el.drop off).take len) with
   | some l => if l.length = 13 then some (axisV ⟨⟨cl, ch⟩, ⟨wl, wh⟩, []⟩ l) else none
   | none => none) else none
  | _ => none)
 | _ => none
theorem lookS_pur (t : List Sp) : (lookS t).pur = true := by
 unfold lookS
 split
 ·rfl
 ·have := slN_pur (enc_pur spC t)
  simp [AV.pur, AV.purL, this]
theorem axisV_pur (ax : Ax) (l : List Sp) : (axisV ax l).pur = true := lookS_pur _
attribute [local irreducible] axisV
theorem hp159 : ∀ args h v, h159 args h = some v → v.pur = true := by
 intro args h v e
 unfold h159 at e
 split at e
 ·split at e
  ·split at e
   ·split at e
    ·split at e
     ·have e := Option.some.inj e
      rw [← e]
      exact axisV_pur _ _
     ·cases e
    ·cases e
   ·cases e
  ·cases e
 ·cases e
theorem H159 : IntrFn Tryz.prog 159 (onHeap h159) := by
 refine row_intr (X := dX cV) cV_sound hp159 ?_
 intro args h v hfr e
 unfold h159 at e
 split at e
 ·rename_i cl ch wl wh id off len
  split at e
  ·rename_i sz el hg
   split at e
   ·rename_i hc
    simp only [Bool.and_eq_true, Nat.ble_eq] at hc
    obtain ⟨⟨hz, hle⟩, hpu⟩ := hc
    have hz := Nat.eq_of_beq_eq_true hz
    subst hz
    split at e
    ·rename_i l hdl
     split at e
     ·rename_i h13
      have e := Option.some.inj e
      subst e
      have hid := hfr id _ hg
      have hget : ∀ id' b, ((Mp.nil : Mp Blk).set id (.rw 2 el)).get id' = some b → id' = id ∧ b = .rw 2 el := by
       intro id' b e
       by_cases hh : (id == id') = true
       ·have := beq_iff_eq.1 hh
        subst this
        rw [get_set_same] at e
        exact ⟨rfl, (Option.some.inj e).symm⟩
       ·rw [get_set_lit _ _ _ _ (by simpa using hh)] at e
        simp at e
      refine ⟨(Mp.nil : Mp Blk).set id (.rw 2 el), fun id' b e => ?_, ?_⟩
      ·obtain ⟨rfl, rfl⟩ := hget id' b e
       exact ⟨hg, 2, el, rfl, purL_mem.1 hpu⟩
      ·have hgm : (Heap.mk h.next ((Mp.nil : Mp Blk).set id (.rw 2 el))).get id = some (.rw 2 el) := get_set_same _ _ _
       have hel : (Heap.mk h.next ((Mp.nil : Mp Blk).set id (.rw 2 el))).elems (.row id off len) = some (l.map spC.enc) := by
        simp only [Heap.elems, hgm]
        rw [if_pos hle, decL_eq spC _ _ hdl]
       have q := C159 cV rfl rfl ⟨⟨cl, ch⟩, ⟨wl, wh⟩, []⟩ l (.row id off len) ⟨h.next, (Mp.nil : Mp Blk).set id (.rw 2 el)⟩ hel rfl h13
       unfold ClR Cl at q
       obtain ⟨r, ⟨k, q1⟩, h', q2, rfl⟩ := q
       exact ⟨_, k, q1 k (Nat.le_refl _), fun id' b e => by
        obtain ⟨rfl, rfl⟩ := hget id' b e
        exact (q2.2 _ hid).trans e⟩
     ·cases e
    ·cases e
   ·cases e
  ·cases e
 ·cases e
theorem K159 {X : Ctx} (hX : X.intr 159 = some (onHeap h159)) (c w : Sp) (l : List Sp) (id : Nat) (h : Heap) (hg : h.get id = some (.rw 2 (l.map spC.enc))) (h13 : l.length = 13) :
  Cl X 159 [.agg [.int .i64 c.lo, .int .i64 c.hi], .agg [.int .i64 w.lo, .int .i64 w.hi], .row id 0 13] h (.ret (axisV ⟨c, w, []⟩ l) h none) :=
 Cl.intr hX (by
  have h1 : Nat.ble (0 + 13) (l.map spC.enc).length = true := by rw [Nat.ble_eq]; simp [h13]
  have h2 : AV.purL (l.map spC.enc) = true := purL_mem.2 (enc_pur spC l)
  have h3 : ((l.map spC.enc).drop 0).take 13 = l.map spC.enc := by rw [List.drop_zero, List.take_of_length_le (by simp [h13])]
  have h0 : Nat.beq 2 2 = true := rfl
  simp only [onHeap, h159, hg, h0, h1, h2, h3, decL_map, Bool.and_self, if_true, h13])
end Go.AM
namespace Go.AM
open Go Go.Proofs
variable [Keep]
attribute [local irreducible] W WO WO1 WD WQ WT thenQ blockQ endR isRet retK Cl ClR
def Sep (a b : AV) : Prop := ∀ id o n o' n', a = .row id o n → b = .row id o' n' → False
theorem Blt.apart {h h' : Heap} {a b : AV} {sz : Nat} {l : List AV} (q : Blt h b sz l) (k : Keeps h h' a) (s : Sep a b) : Blt h' b sz l := by
 rcases q with q | ⟨id, h1, h2, h3, h4⟩
 ·exact .inl q
 ·refine .inr ⟨id, h1, ?_, Nat.lt_of_lt_of_le h3 k.1, h4⟩
  rw [k.2 id h3 (fun off n e => s id off n 0 l.length e h1)]
  exact h2
section
variable {X : Ctx} {ops : Array Oper} {K P : AV → Fr → Prop} {F : Fr} {d : Option Tmp} {T : TypeId} {p : String} {af : Array Edge}
theorem WO1.appendE {args : Array Operand} {at_ : Array TypeId} {t u e e' : TypeId} {tl : List TypeId} {sz : Nat} {x y : AV} {new l : List AV} (hb : Blt F.hp x sz l) (hargs : F.opvs args.toList = some [x, y]) (ht : at_.toList = t :: u :: tl) (hu : X.P.underlying u = some (.slice e'))
  (hel : elemT X.P t = some e) (hs : szT X.P e = sz) (hrow : rowable X.P e = true) (hy : F.hp.elems y = some new) (hsz : ∀ v ∈ new, v.cells.length = sz) (hlen : l.length + new.length ≤ most) (hne : new ≠ [])
  (h : ∀ v' h', Blt h' v' sz (l ++ new) → outV (some v') = some v' → Keeps F.hp h' x → v' = .row F.hp.next 0 (l ++ new).length → K v' (({ F with hp := h' } : Fr).put d v')) : WO1 X ops ⟨d, .call ⟨.builtin .append, args, at_⟩, T, p, af, none⟩ F K P := by
 subst hs
 obtain ⟨v', h', q1, q2, q3, q4⟩ := append_blt hel hrow hsz hb hlen hne
 refine U5 (v := v') (F' := { F with hp := h' }) rfl (fun cl rd => ?_) (h v' h' q2 q2.out q3 q4)
 simp only [efV, Fr.callOp, Fr.builtinE, Fr.appendE, ht, hargs, hu]
 cases y <;> first | (simp only [hy, q1, okO]; done) | simp [Heap.elems] at hy
end
theorem Blt.id_lt {h : Heap} {b : AV} {sz id o n : Nat} {l : List AV} (q : Blt h b sz l) (e : b = .row id o n) : id < h.next := by
 rcases q with ⟨h1, _⟩ | ⟨i, h1, h2, h3, h4⟩
 ·rw [h1] at e; cases e
 ·rw [h1] at e; cases e; exact h3
theorem Sep.symm {a b : AV} (s : Sep a b) : Sep b a := fun id o n o' n' e1 e2 => s id o' n' o n e2 e1
theorem Sep.new {h : Heap} {b : AV} {sz k : Nat} {l : List AV} (q : Blt h b sz l) (hk : h.next ≤ k) (n : Nat) : Sep (.row k 0 n) b := by
 intro id o m o' m' e1 e2
 cases e1
 have := q.id_lt e2
 omega
theorem Sep.nil (b : AV) : Sep .nilslice b := fun id o n o' n' e _ => by cases e
def ownS (sel : Held → Sp) : List Held → List Sp → List Sp
 | [], o => o
 | m :: r, o => ownS sel r (o.set m.b.toNat (interS (o.getD m.b.toNat ⟨0, 0⟩) (sel m)))
theorem ownS_len (sel : Held → Sp) : ∀ (ms : List Held) (o : List Sp), (ownS sel ms o).length = o.length := by
 intro ms
 induction ms with
 | nil => intro o; rfl
 | cons m r ih => intro o; simp [ownS, ih]
def wideS : Sp := ⟨-1000, 1000⟩
def initS : List Sp := List.replicate 13 wideS
def blkB (m : Held) : Bool := inB m.b 0 12
def mergeV (a b : AV) : AV := match a, b with
 | .tuple [x, .bool p], .tuple [y, .bool q] => .tuple [x, y, .bool (p && q)]
 | _, _ => .junk
def bothV (cx cy wx wy : Sp) (ms : List Held) : AV := mergeV (axisV ⟨cx, wx, []⟩ (ownS (·.x) ms initS)) (axisV ⟨cy, wy, []⟩ (ownS (·.y) ms initS))
theorem lookS_is (t : List Sp) : ∃ x p, lookS t = .tuple [x, .bool p] ∧ x.pur = true ∧ outV (some x) = some x ∧ (∀ hp : Heap, frz2 hp x = some (x, hp)) ∧ isTuple x = false := by
 unfold lookS
 split
 ·exact ⟨_, _, rfl, rfl, rfl, fun _ => rfl, rfl⟩
 ·exact ⟨_, _, rfl, slN_pur (enc_pur spC t), (slN_is _).out, (slN_is _).frz2, (slN_is _).tup⟩
def sp105 : List AV → Option AV
 | [.agg [sa, .int .i64 cxl, .int .i64 cxh, .int .i64 cyl, .int .i64 cyh, .int .i64 wxl, .int .i64 wxh, .int .i64 wyl, .int .i64 wyh, ra], ma] => match slV ptC sa, slV rdgC ra, slV heldC ma with
  | some _, some _, some ms => if ms.all blkB = true then some (bothV ⟨cxl, cxh⟩ ⟨cyl, cyh⟩ ⟨wxl, wxh⟩ ⟨wyl, wyh⟩ ms) else none
  | _, _, _ => none
 | _ => none
theorem bothV_is (cx cy wx wy : Sp) (ms : List Held) : ∃ x p y q, axisV ⟨cx, wx, []⟩ (ownS (·.x) ms initS) = .tuple [x, .bool p] ∧ axisV ⟨cy, wy, []⟩ (ownS (·.y) ms initS) = .tuple [y, .bool q] ∧ bothV cx cy wx wy ms = .tuple [x, y, .bool (p && q)] ∧
  x.pur = true ∧ y.pur = true ∧ outV (some x) = some x ∧ outV (some y) = some y ∧ (∀ hp : Heap, frz2 hp x = some (x, hp)) ∧ (∀ hp : Heap, frz2 hp y = some (y, hp)) ∧ isTuple x = false ∧ isTuple y = false := by
 obtain ⟨x, p, e1, e2, e3, e4, e5⟩ := lookS_is (backS ⟨cx, wx, []⟩ 12 (onR ⟨cx, wx, []⟩ 12 (ownS (·.x) ms initS)))
 obtain ⟨y, q, f1, f2, f3, f4, f5⟩ := lookS_is (backS ⟨cy, wy, []⟩ 12 (onR ⟨cy, wy, []⟩ 12 (ownS (·.y) ms initS)))
 refine ⟨x, p, y, q, e1, f1, ?_, e2, f2, e3, f3, e4, f4, e5, f5⟩
 unfold bothV axisV
 rw [e1, f1]
 rfl
attribute [local irreducible] axisV bothV
theorem p105 : ∀ args v, sp105 args = some v → v.pur = true := by
 intro args v h
 unfold sp105 at h
 split at h
 ·split at h
  ·split at h
   ·rename_i ms _ _
    have h := Option.some.inj h
    obtain ⟨x, p, y, q, _, _, e, h1, h2, _⟩ := bothV_is ⟨_, _⟩ ⟨_, _⟩ ⟨_, _⟩ ⟨_, _⟩ _
    rw [← h, e]
    simp [AV.pur, AV.purL, h1, h2]
   ·cases h
  ·cases h
 ·cases h
noncomputable def cW : FuncId → Option (List AV → Heap → Option (AV × Heap))
 | 158 => some (pureFn sp158)
 | 159 => some (onHeap h159)
 | _ => none
theorem cW_sound : Sound (dX cW) := dX_sound (fun f g h => by
 unfold cW at h
 split at h
 ·cases h; exact F158
 ·cases h; exact H159
 ·cases h)
theorem mark_idx {a : AV} {l : List Held} (h : slV heldC a = some l) {k : Nat} {p : Held} (hp : l[k]? = some p) (H : Heap) : indexAddrV Tryz.prog H 156 a (.int .i64 ↑k) = some (.vptr [.int .i64 p.b, .int .i64 p.x.lo, .int .i64 p.x.hi, .int .i64 p.y.lo, .int .i64 p.y.hi]) :=
 (slV_is h).1.idx (x := heldC.enc p) Tryz.underlying156 ty_lay181 (by simp [hp]) rfl
end Go.AM
namespace Go.AM
open Go Go.Proofs
variable [Keep]
attribute [local irreducible] W WO WO1 WD WQ WT thenQ blockQ endR isRet retK Cl ClR
attribute [local irreducible] axisV bothV
theorem rep_next (k : Nat) : (List.replicate k wideS).map spC.enc ++ [.agg [.int .i64 (-1000), .int .i64 1000]] = (List.replicate (k + 1) wideS).map spC.enc := by
 rw [List.replicate_succ']
 simp [spC, wideS]
set_option maxHeartbeats 4000000 in
theorem F105 : IntrFn Tryz.prog 105 (pureFn sp105) := by
 refine pure_fn (X := dX cW) cW_sound p105 ?_
 intro args v h
 unfold sp105 at h
 split at h
 ·rename_i sa cxl cxh cyl cyh wxl wxh wyl wyh ra ma
  split at h
  ·rename_i st rs ms hl hr hm
   split at h
   ·rename_i hbl
    have h := Option.some.inj h
    subst h
    have hlen := sl_len hm
    have hout := sl_out hm
    have hmax := sl_max hm
    have hout2 := sl_out hl
    have hout3 := sl_out hr
    obtain ⟨x, p, y, q, hax, hay, hv, _, _, hox, hoy, hfx, hfy, htx, hty⟩ := bothV_is ⟨cxl, cxh⟩ ⟨cyl, cyh⟩ ⟨wxl, wxh⟩ ⟨wyl, wyh⟩ ms
    rw [hv]
    have HAX := Lib.hid hax
    have HAY := Lib.hid hay
    have HBL := Lib.hid hbl
    clear hv hl hr hbl hax hay
    refine ClR.walk (c := _) rfl Tryz.func105 rfl (by kernel_rfl) rfl isRet_fail ?_
    simp only [entryEnv, Nat.reduceAdd]
    repeat' (first | refine goS ?_ | refine go2 (fun hh => ?_) (fun hh => ?_) | fail)
    refine W.loopN 13 (fun k F => ∃ e lm hp ux uy, F = Fr.mk 105 false e lm hp [] none ∧ Blt hp ux 2 ((List.replicate k wideS).map spC.enc) ∧ Blt hp uy 2 ((List.replicate k wideS).map spC.enc) ∧ Sep ux uy ∧
     lm.get 2 = some (0, [sa, .int .i64 cxl, .int .i64 cxh, .int .i64 cyl, .int .i64 cyh, .int .i64 wxl, .int .i64 wxh, .int .i64 wyl, .int .i64 wyh, ra]) ∧ e.get 2 = some (.lptr 2 0 0) ∧ e.get 1 = some ma ∧ e.get 7 = some ux ∧ e.get 8 = some uy ∧ e.get 9 = some (.int .i64 ↑k) ∧ k ≤ 13) ?_ ?_
    ·refine ⟨_, _, _, _, _, rfl, Blt.nil, Blt.nil, Sep.nil _, ?_, ?_, ?_, ?_, ?_, ?_, ?_⟩ <;> first | exact Z2 | simp [go_sem, *]
    rintro k F ⟨e, lm, hp, ux, uy, rfl, hBx, hBy, hSep, hl2, h2, h1, h7, h8, h9, hk⟩
    have hbox := hBx.out
    have hboy := hBy.out
    by_cases hlt : k < 13
    ·have hd : decide ((k : Int) ≤ 12) = true := by simp; omega
     have hw := wrap_succ hlt (by unfold maxL; omega)
     have hll : ((List.replicate k wideS).map spC.enc).length + 1 ≤ most := by simp only [List.length_map, List.length_replicate]; unfold most; omega
     repeat' (first | (apply WO1.appendE (t := 146) (u := 146) (e := 48) (e' := 48) (sz := 2) (tl := []) (hb := hBx); exact Z1; exact rfl; exact Z2; exact Z2; exact Z2; (focus (exact ty_row146)); exact Z1; (focus (intro v hv; simp at hv; rcases hv with rfl | rfl <;> rfl)); (focus (simp only [List.length_cons, List.length_nil]; exact hll)); (focus (simp)); (intro vx hx1 hBx1 hox1 hKx1 hEx1; have hBy1 := hBy.apart hKx1 hSep; simp only [pM, pN])) | (apply WO1.appendE (t := 146) (u := 146) (e := 48) (e' := 48) (sz := 2) (tl := []) (hb := hBy1); exact Z1; exact rfl; exact Z2; exact Z2; exact Z2; (focus (exact ty_row146)); exact Z1; (focus (intro v hv; simp at hv; rcases hv with rfl | rfl <;> rfl)); (focus (simp only [List.length_cons, List.length_nil]; exact hll)); (focus (simp)); (intro vy hy1 hBy2 hoy1 hKy1 hEy1; simp only [pM, pN])) | refine go1 ?_ | refine go2 (fun hh => ?_) (fun hh => ?_) | fail)
     refine ⟨hlt, _, _, _, vx, vy, rfl, ?_, ?_, ?_, ?_, ?_, ?_, ?_, ?_, ?_, by omega⟩
     ·rw [← rep_next]
      refine hBx1.apart hKy1 (Sep.symm ?_)
      rw [hEx1]
      exact Sep.new hBy (Nat.le_refl _) _
     ·rw [← rep_next]
      exact hBy2
     ·refine Sep.symm ?_
      rw [hEy1]
      exact Sep.new hBx1 (Nat.le_refl _) _
     all_goals exact Z2
    ·have hd : decide ((k : Int) ≤ 12) = false := by simp; omega
     have hk13 : k = 13 := by omega
     subst hk13
     have hne : (List.replicate 13 wideS).map spC.enc ≠ [] := by simp
     obtain ⟨idx, hux, hgx, hidx⟩ : ∃ id, ux = .row id 0 13 ∧ hp.get id = some (.rw 2 (initS.map spC.enc)) ∧ id < hp.next := by
      rcases hBx with ⟨_, e⟩ | ⟨id, q1, q2, q3, _⟩
      ·exact absurd e hne
      ·exact ⟨id, by simpa using q1, q2, q3⟩
     obtain ⟨idy, huy, hgy, hidy⟩ : ∃ id, uy = .row id 0 13 ∧ hp.get id = some (.rw 2 (initS.map spC.enc)) ∧ id < hp.next := by
      rcases hBy with ⟨_, e⟩ | ⟨id, q1, q2, q3, _⟩
      ·exact absurd e hne
      ·exact ⟨id, by simpa using q1, q2, q3⟩
     have hxy : idx ≠ idy := fun e => hSep idx 0 13 0 13 hux (by rw [huy, e])
     have HXY := Lib.hid hxy
     have HGX := Lib.hid hgx
     have HGY := Lib.hid hgy
     subst hux huy
     clear hne hBx hBy hSep hxy hgx hgy hlt hk
     repeat' (first | refine goS ?_ | refine go2 (fun hh => ?_) (fun hh => ?_) | fail)
     refine W.loopN ms.length (fun j F => ∃ e lm hp cx cy, F = Fr.mk 105 false e lm hp [] none ∧ ownS (·.x) (ms.drop j) cx = ownS (·.x) ms initS ∧ ownS (·.y) (ms.drop j) cy = ownS (·.y) ms initS ∧ cx.length = 13 ∧ cy.length = 13 ∧
      hp.get idx = some (.rw 2 (cx.map spC.enc)) ∧ hp.get idy = some (.rw 2 (cy.map spC.enc)) ∧ lm.get 2 = some (0, [sa, .int .i64 cxl, .int .i64 cxh, .int .i64 cyl, .int .i64 cyh, .int .i64 wxl, .int .i64 wxh, .int .i64 wyl, .int .i64 wyh, ra]) ∧
      e.get 2 = some (.lptr 2 0 0) ∧ e.get 1 = some ma ∧ e.get 7 = some (.row idx 0 13) ∧ e.get 8 = some (.row idy 0 13) ∧ e.get 10 = some (.int .i64 ↑j) ∧ j ≤ ms.length) ?_ ?_
     ·refine ⟨_, _, _, initS, initS, rfl, rfl, rfl, rfl, rfl, HGX.out, HGY.out, ?_, ?_, ?_, ?_, ?_, ?_, ?_⟩ <;> first | exact Z2 | simp [go_sem, *]
     clear hl2 h2 h1 h7 h8 h9 hd hbox hboy HGX HGY hidx hidy
     rintro j F ⟨e, lm, hp, cx, cy, rfl, hcx, hcy, hnx, hny, hgx, hgy, hl2, h2, h1, h7, h8, h10, hj⟩
     have HCX := Lib.hid hcx
     have HCY := Lib.hid hcy
     have HNX := Lib.hid hnx
     have HNY := Lib.hid hny
     clear hcx hcy hnx hny
     by_cases hjt : j < ms.length
     ·obtain ⟨m, hm'⟩ := get_some hjt
      have hix := mark_idx hm hm'
      have hdr : ms.drop j = m :: ms.drop (j + 1) := by
       rw [List.drop_eq_getElem_cons hjt]
       rw [List.getElem?_eq_getElem hjt] at hm'
       rw [Option.some.inj hm']
      have hmb : blkB m = true := List.all_eq_true.1 HBL.out m (List.mem_of_getElem? hm')
      simp only [blkB, inB, Bool.and_eq_true, decide_eq_true_eq] at hmb
      obtain ⟨n, hn⟩ : ∃ n : Nat, m.b = n := ⟨m.b.toNat, by omega⟩
      have hn13 : n < 13 := by omega
      obtain ⟨px, hpx⟩ := get_some (show n < cx.length by rw [HNX.out]; omega)
      obtain ⟨py, hpy⟩ := get_some (show n < cy.length by rw [HNY.out]; omega)
      have hrx := row_at hpx
      have hry := row_at hpy
      have hixx := row_idx hn13 hgx
      have hixy := row_idx hn13 hgy
      have hgy' : ∀ b, (hp.put idx b).get idy = some (.rw 2 (cy.map spC.enc)) := fun b => by
       have h := HXY.out
       rw [← hgy]
       simp [Heap.get, Heap.put, h]
      have hixy' : ∀ b, indexAddrV Tryz.prog (hp.put idx b) 146 (.row idy 0 13) (.int .i64 ↑n) = some (.eptr idy 2 n 0) := fun b => row_idx hn13 (hgy' b)
      have hd : decide ((j : Int) < (ms.length : Int)) = true := by simpa using hjt
      have hw := wrap_succ hjt hmax
      have hnx : ownS (·.x) (ms.drop (j + 1)) (cx.set n (interS px m.x)) = ownS (·.x) ms initS := by
       rw [← HCX.out, hdr]
       have : m.b.toNat = n := by omega
       simp only [ownS, this, getD_of hpx]
      have hny : ownS (·.y) (ms.drop (j + 1)) (cy.set n (interS py m.y)) = ownS (·.y) ms initS := by
       rw [← HCY.out, hdr]
       have : m.b.toNat = n := by omega
       simp only [ownS, this, getD_of hpy]
      have HX := Lib.hid hnx
      have HY := Lib.hid hny
      rw [hn] at hix
      clear hm hm' hdr hmb hpx hpy hnx hny hn
      repeat' (first | (apply W.drawQ (id := 10) (l1 := [0, 1, 2, 3, 4, 5, 6, 7, 8, 9, 10, 11, 12, 13, 14, 15, 16, 17, 18, 19, 20, 21, 22, 23, 24]) (l2 := [25, 26, 27]); kernel_rfl; kernel_rfl; kernel_rfl; exact Z4) | refine go1 ?_ | (apply U6; exact Z1; exact Z1; (focus (simp only [List.nil_append, List.append_nil]; first | exact K158 rfl _ _ _ _ _)); simp only [pM, pN, rR, rP]) | refine go2 (fun hh => ?_) (fun hh => ?_) | fail)
      refine ⟨hjt, _, _, _, cx.set n (interS px m.x), cy.set n (interS py m.y), rfl, HX.out, HY.out, ?_, ?_, ?_, ?_, ?_, ?_, ?_, ?_, ?_, ?_, by omega⟩
      ·rw [List.length_set]; exact HNX.out
      ·rw [List.length_set]; exact HNY.out
      ·have h := HXY.out
       simp [Heap.get, Heap.put, List.map_set, spC, asElem, isAggV, interS, h, Ne.symm h]
      ·have h := HXY.out
       simp [Heap.get, Heap.put, List.map_set, spC, asElem, isAggV, interS, h, Ne.symm h]
      all_goals exact Z2
     ·have hd : decide ((j : Int) < (ms.length : Int)) = false := by simpa using hjt
      have hjl : j = ms.length := by omega
      have hcx : cx = ownS (·.x) ms initS := by
       have := HCX.out
       rw [hjl, List.drop_length] at this
       exact this
      have hcy : cy = ownS (·.y) ms initS := by
       have := HCY.out
       rw [hjl, List.drop_length] at this
       exact this
      have hX : ∀ H : Heap, H.get idx = some (.rw 2 (cx.map spC.enc)) → Cl (dX cW) 159 [.agg [.int .i64 cxl, .int .i64 cxh], .agg [.int .i64 wxl, .int .i64 wxh], .row idx 0 13] H (.ret (.tuple [x, .bool p]) H none) := fun H hg => by
       have := K159 (X := dX cW) rfl ⟨cxl, cxh⟩ ⟨wxl, wxh⟩ cx idx H hg HNX.out
       rw [hcx, HAX.out] at this
       exact this
      have hY : ∀ H : Heap, H.get idy = some (.rw 2 (cy.map spC.enc)) → Cl (dX cW) 159 [.agg [.int .i64 cyl, .int .i64 cyh], .agg [.int .i64 wyl, .int .i64 wyh], .row idy 0 13] H (.ret (.tuple [y, .bool q]) H none) := fun H hg => by
       have := K159 (X := dX cW) rfl ⟨cyl, cyh⟩ ⟨wyl, wyh⟩ cy idy H hg HNY.out
       rw [hcy, HAY.out] at this
       exact this
      have HX := Lib.hid hX
      have HY := Lib.hid hY
      clear hX hY hcx hcy hjl hm
      repeat' (first | refine goS ?_ | (apply U6; exact Z1; exact Z1; (focus (simp only [List.nil_append, List.append_nil]; first | exact HX.out _ (by simp only [go_sem, *, Nat.reduceLT, Int.reduceEq, Int.reduceBEq, Int.reduceLE, Int.reduceLT, Nat.reduceAdd, Nat.reduceBEq, Nat.reduceEqDiff, reduceIte, Nat.reduceLeDiff, Nat.reduceMul, Nat.reduceSub, reduceCtorEq]) | exact HY.out _ (by simp only [go_sem, *, Nat.reduceLT, Int.reduceEq, Int.reduceBEq, Int.reduceLE, Int.reduceLT, Nat.reduceAdd, Nat.reduceBEq, Nat.reduceEqDiff, reduceIte, Nat.reduceLeDiff, Nat.reduceMul, Nat.reduceSub, reduceCtorEq]))); simp only [pM, pN, rR, rP]) | refine go2 (fun hh => ?_) (fun hh => ?_) | fail)
      all_goals (simp only [resV_def (X := dX cW) Tryz.func105, Tryz.results105]; first | exact J5 | refine J6 ?_)
      all_goals simp [*]
   ·cases h
  ·cases h
 ·cases h
end Go.AM
namespace Go.AM
open Go
variable [Keep]
theorem interW {x : Sp} (h1 : -1000 ≤ x.lo) (h2 : x.hi ≤ 1000) : interS wideS x = x :=
 Sp.ext2 (by rw [interS_lo]; simp only [wideS]; omega) (by rw [interS_hi]; simp only [wideS]; omega)
def limOf (sel : Held → Sp) (m : Held) : Lim := ⟨m.b, (sel m).lo, (sel m).hi⟩
theorem own_get (sel : Held → Sp) (k : Nat) : ∀ (ms : List Held) (o : List Sp), k < o.length → (∀ m ∈ ms, 0 ≤ m.b) → (ownS sel ms o).getD k ⟨0, 0⟩ = allS k (ms.map (limOf sel)) (o.getD k ⟨0, 0⟩) := by
 intro ms
 induction ms with
 | nil => intro o _ _; rfl
 | cons m r ih =>
  intro o hk hb
  have hm := hb m (by simp)
  simp only [ownS, List.map_cons, allS]
  rw [ih _ (by simpa using hk) (fun m' h' => hb m' (by simp [h']))]
  by_cases e : m.b = (k : Int)
  ·have hn : m.b.toNat = k := by omega
   have h1 : ((limOf sel m).b == (k : Int)) = true := by simp [limOf, e]
   rw [if_pos h1, hn]
   rw [getD_set_same hk]
   rfl
  ·have hn : m.b.toNat ≠ k := by omega
   have h1 : ¬ ((limOf sel m).b == (k : Int)) = true := by simp [limOf, e]
   rw [if_neg h1]
   rw [getD_set_ne hn]
theorem onR_lim (c w : Sp) (L : List Lim) (l : List Sp) : ∀ n, onR ⟨c, w, []⟩ n l = onR ⟨c, w, L⟩ n l := by
 intro n
 induction n with
 | zero => rfl
 | succ n ih =>
  simp only [onR]
  rw [ih]
  rfl
theorem backS_lim (c w : Sp) (L : List Lim) : ∀ n (l : List Sp), backS ⟨c, w, []⟩ n l = backS ⟨c, w, L⟩ n l := by
 intro n
 induction n with
 | zero => intro l; rfl
 | succ n ih =>
  intro l
  simp only [backS]
  rw [ih]
  rfl
theorem on_own (ax : Ax) (own : List Sp) (h13 : own.length = 13) (hown : ∀ k, k < 13 → own.getD k ⟨0, 0⟩ = allS k ax.limits wideS) (hc : -1000 ≤ ax.chuck.lo ∧ ax.chuck.hi ≤ 1000)
  (hn : ∀ k, k < 12 → -1000 ≤ (nxtS ax (onS ax k)).lo ∧ (nxtS ax (onS ax k)).hi ≤ 1000) : ∀ n, n ≤ 12 → (∀ j, j ≤ n → (onR ax n own).getD j ⟨0, 0⟩ = onS ax j) ∧ (∀ j, n < j → (onR ax n own).getD j ⟨0, 0⟩ = own.getD j ⟨0, 0⟩) := by
 intro n
 induction n with
 | zero =>
  intro _
  refine ⟨fun j hj => ?_, fun j hj => ?_⟩
  ·have : j = 0 := by omega
   subst this
   simp only [onR]
   rw [getD_set_same (by omega), hown 0 (by omega), allS_inter, interW hc.1 hc.2]
   rfl
  ·simp only [onR]
   rw [getD_set_ne (by omega)]
 | succ n ih =>
  intro hn12
  obtain ⟨h1, h2⟩ := ih (by omega)
  refine ⟨fun j hj => ?_, fun j hj => ?_⟩
  ·by_cases e : j = n + 1
   ·subst e
    have hl : (onR ax n own).length = 13 := by rw [onR_len, h13]
    have : (onR ax (n + 1) own).getD (n + 1) ⟨0, 0⟩ = interS ((onR ax n own).getD (n + 1) ⟨0, 0⟩) (nxtS ax ((onR ax n own).getD n ⟨0, 0⟩)) := by
     simp only [onR]
     rw [getD_set_same (by omega)]
    rw [this, h2 (n + 1) (by omega), h1 n (Nat.le_refl _), hown (n + 1) (by omega), allS_inter]
    obtain ⟨b1, b2⟩ := hn n (by omega)
    rw [interW b1 b2]
    rfl
   ·have : (onR ax (n + 1) own).getD j ⟨0, 0⟩ = (onR ax n own).getD j ⟨0, 0⟩ := by
     simp only [onR]
     rw [getD_set_ne (fun e' => e e'.symm)]
    rw [this, h1 j (by omega)]
  ·have : (onR ax (n + 1) own).getD j ⟨0, 0⟩ = (onR ax n own).getD j ⟨0, 0⟩ := by
    simp only [onR]
    rw [getD_set_ne (by omega)]
   rw [this, h2 j (by omega)]
def axO : Option (List Sp) → AV
 | none => .tuple [.nilslice, .bool false]
 | some t => .tuple [slN (t.map spC.enc), .bool true]
structure Good (c w : Sp) (L : List Lim) : Prop where
 c1 : -12 ≤ c.lo
 c2 : c.lo ≤ c.hi
 c3 : c.hi ≤ 12
 w1 : -3 ≤ w.lo
 w2 : w.lo ≤ w.hi
 w3 : w.hi ≤ 3
 l : ∀ m ∈ L, -104 ≤ m.lo ∧ m.lo ≤ 104 ∧ -104 ≤ m.hi ∧ m.hi ≤ 104
theorem allS_bd (b A B : Int) (hB : 104 ≤ B) (hA : A ≤ 104) : ∀ (L : List Lim) (s : Sp), (∀ m ∈ L, -104 ≤ m.lo ∧ m.lo ≤ 104 ∧ -104 ≤ m.hi ∧ m.hi ≤ 104) → A ≤ s.lo ∧ s.lo ≤ B ∧ -B ≤ s.hi ∧ s.hi ≤ -A →
  A ≤ (allS b L s).lo ∧ (allS b L s).lo ≤ B ∧ -B ≤ (allS b L s).hi ∧ (allS b L s).hi ≤ -A := by
 intro L
 induction L with
 | nil => intro s _ h; exact h
 | cons m r ih =>
  intro s hL h
  simp only [allS]
  split
  ·refine ih _ (fun m' h' => hL m' (by simp [h'])) ?_
   have := hL m (by simp)
   simp only [interS_lo, interS_hi, Lim.sp]
   omega
  ·exact ih _ (fun m' h' => hL m' (by simp [h'])) h
theorem nxt_small {c w : Sp} {L : List Lim} (g : Good c w L) {s : Sp} {A B : Int} (hA : -1000 ≤ A) (hB : B ≤ 1000) (h : A ≤ s.lo ∧ s.lo ≤ B ∧ -B ≤ s.hi ∧ s.hi ≤ -A) :
  (nxtS ⟨c, w, L⟩ s).lo = s.lo + w.lo ∧ (nxtS ⟨c, w, L⟩ s).hi = s.hi + w.hi := by
 have g1 := g.w1
 have g2 := g.w2
 have g3 := g.w3
 show w64 (s.lo + w.lo) = _ ∧ w64 (s.hi + w.hi) = _
 exact ⟨wrap_small (by omega) (by omega), wrap_small (by omega) (by omega)⟩
theorem on_bd {c w : Sp} {L : List Lim} (g : Good c w L) : ∀ k : Nat, k ≤ 13 → -12 - 3 * (k : Int) ≤ (onS ⟨c, w, L⟩ k).lo ∧ (onS ⟨c, w, L⟩ k).lo ≤ 104 + 3 * (k : Int) ∧ -(104 + 3 * (k : Int)) ≤ (onS ⟨c, w, L⟩ k).hi ∧ (onS ⟨c, w, L⟩ k).hi ≤ -(-12 - 3 * (k : Int)) := by
 intro k
 induction k with
 | zero =>
  intro _
  have := g.c1
  have := g.c2
  have := g.c3
  exact allS_bd _ _ _ (by omega) (by omega) L c g.l (by omega)
 | succ k ih =>
  intro hk
  have h := ih (by omega)
  obtain ⟨e1, e2⟩ := nxt_small g (by omega) (by omega) h
  have := g.w1
  have := g.w2
  have := g.w3
  refine allS_bd _ _ _ (by omega) (by omega) L (nxtS ⟨c, w, L⟩ (onS ⟨c, w, L⟩ k)) g.l ?_
  rw [e1, e2]
  omega
theorem axis_ref {c w : Sp} {L : List Lim} (g : Good c w L) (own : List Sp) (h13 : own.length = 13) (hown : ∀ k, k < 13 → own.getD k ⟨0, 0⟩ = allS k L wideS) : axisV ⟨c, w, []⟩ own = axO (boundsS ⟨c, w, L⟩) := by
 have hc1 := g.c1
 have hc2 := g.c2
 have hc3 := g.c3
 have hw2 := g.w2
 have hw1 := g.w1
 have hw3 := g.w3
 have hnx : ∀ k : Nat, k < 12 → (nxtS ⟨c, w, L⟩ (onS ⟨c, w, L⟩ k)).lo = (onS ⟨c, w, L⟩ k).lo + w.lo ∧ (nxtS ⟨c, w, L⟩ (onS ⟨c, w, L⟩ k)).hi = (onS ⟨c, w, L⟩ k).hi + w.hi :=
  fun k hk => nxt_small g (by omega) (by omega) (on_bd g k (by omega))
 have hb := bounds_ref ⟨c, w, L⟩ (by simp [empS]; omega) (fun k hk he => by
  obtain ⟨e1, e2⟩ := hnx k hk
  simp only [empS, decide_eq_false_iff_not] at *
  rw [e1, e2]
  omega)
 obtain ⟨o1, _⟩ := on_own ⟨c, w, L⟩ own h13 hown (show -1000 ≤ c.lo ∧ c.hi ≤ 1000 by omega) (fun k hk => by
  obtain ⟨e1, e2⟩ := hnx k hk
  have := on_bd g k (by omega)
  rw [e1, e2]
  omega) 12 (Nat.le_refl _)
 have hlist : onR ⟨c, w, L⟩ 12 own = (List.range 13).map (onS ⟨c, w, L⟩) := by
  apply List.ext_getElem
  ·rw [onR_len, h13]; simp
  ·intro j h1 h2
   have hj : j < 13 := by simpa using h2
   have := o1 j (by omega)
   simp only [List.getD, List.getElem?_eq_getElem h1, Option.getD_some] at this
   rw [this]
   simp
 rw [hb]
 unfold axisV refS lookS
 rw [onR_lim c w L, backS_lim c w L, hlist]
 split <;> rfl
theorem lims_155 (rs : List Rdg) : (marksOf rs).map (limOf (·.x)) = lims155 rs := by simp [marksOf, lims155, limOf]
theorem lims_156 (rs : List Rdg) : (marksOf rs).map (limOf (·.y)) = lims156 rs := by simp [marksOf, lims156, limOf]
theorem span_of {lo hi a b wide : Int} (h : spanB lo hi a b wide = true) : a ≤ lo ∧ lo ≤ hi ∧ hi ≤ b := by
 simp only [spanB, Bool.and_eq_true, decide_eq_true_eq] at h
 omega
theorem rdg_of {p : Rdg} (h : okRdg p = true) : 0 ≤ p.b ∧ p.b ≤ 12 ∧ -80 ≤ p.x ∧ p.x ≤ 80 ∧ -80 ≤ p.y ∧ p.y ≤ 80 ∧ 0 ≤ p.err ∧ p.err ≤ 4 := by
 have e : w64 (-80) = -80 := rfl
 simp only [okRdg, okPt, inB, e, Bool.and_eq_true, decide_eq_true_eq] at h
 omega
theorem init_get {k : Nat} (hk : k < 13) : initS.getD k ⟨0, 0⟩ = wideS := by
 unfold initS
 rw [List.getD, List.getElem?_replicate, if_pos hk]
 rfl
section
variable {st : List Pt} {cx cy wx wy : Sp} {rs : List Rdg} (h : machB st cx cy wx wy rs = true)
include h
theorem mach_rdg : ∀ p ∈ rs, okRdg p = true := by
 intro p hp
 simp only [machB, Bool.and_eq_true] at h
 have := h.2
 simp only [Bool.not_eq_true'] at this
 have := List.any_eq_false.1 this p hp
 simpa using this
theorem good_x : Good cx wx (lims155 rs) := by
 have e1 : w64 (-12) = -12 := rfl
 have e2 : w64 (-3) = -3 := rfl
 have hr := mach_rdg h
 simp only [machB, Bool.and_eq_true, e1, e2] at h
 have h1 := span_of h.1.1.1.1.1.2
 have h2 := span_of h.1.1.1.2
 refine ⟨h1.1, h1.2.1, h1.2.2, h2.1, h2.2.1, h2.2.2, fun m hm => ?_⟩
 obtain ⟨p, hp, rfl⟩ := List.mem_map.1 hm
 have := rdg_of (hr p hp)
 have a1 : w64 (p.x - p.err) = p.x - p.err := wrap_small (by omega) (by omega)
 have a2 : w64 (p.x + p.err) = p.x + p.err := wrap_small (by omega) (by omega)
 simp only [a1, a2]
 omega
theorem good_y : Good cy wy (lims156 rs) := by
 have e1 : w64 (-12) = -12 := rfl
 have e2 : w64 (-3) = -3 := rfl
 have hr := mach_rdg h
 simp only [machB, Bool.and_eq_true, e1, e2] at h
 have h1 := span_of h.1.1.1.1.2
 have h2 := span_of h.1.1.2
 refine ⟨h1.1, h1.2.1, h1.2.2, h2.1, h2.2.1, h2.2.2, fun m hm => ?_⟩
 obtain ⟨p, hp, rfl⟩ := List.mem_map.1 hm
 have := rdg_of (hr p hp)
 have a1 : w64 (p.y - p.err) = p.y - p.err := wrap_small (by omega) (by omega)
 have a2 : w64 (p.y + p.err) = p.y + p.err := wrap_small (by omega) (by omega)
 simp only [a1, a2]
 omega
theorem marks_blk : (marksOf rs).all blkB = true := by
 refine List.all_eq_true.2 fun m hm => ?_
 obtain ⟨p, hp, rfl⟩ := List.mem_map.1 hm
 have := rdg_of (mach_rdg h p hp)
 simp [blkB, inB]
 omega
theorem marks_pos : ∀ m ∈ marksOf rs, 0 ≤ m.b := by
 intro m hm
 obtain ⟨p, hp, rfl⟩ := List.mem_map.1 hm
 exact (rdg_of (mach_rdg h p hp)).1
theorem axisX : axisV ⟨cx, wx, []⟩ (ownS (·.x) (marksOf rs) initS) = axO (boundsS (ax0 cx wx rs [])) := by
 have : ax0 cx wx rs [] = ⟨cx, wx, lims155 rs⟩ := by simp [ax0]
 rw [this]
 refine axis_ref (good_x h) _ (by rw [ownS_len]; rfl) (fun k hk => ?_)
 rw [own_get _ k _ _ (by exact hk) (marks_pos h), lims_155]
 rw [init_get hk]
theorem axisY : axisV ⟨cy, wy, []⟩ (ownS (·.y) (marksOf rs) initS) = axO (boundsS (ax1 cy wy rs [])) := by
 have : ax1 cy wy rs [] = ⟨cy, wy, lims156 rs⟩ := by simp [ax1]
 rw [this]
 refine axis_ref (good_y h) _ (by rw [ownS_len]; rfl) (fun k hk => ?_)
 rw [own_get _ k _ _ (by exact hk) (marks_pos h), lims_156]
 rw [init_get hk]
end
end Go.AM
namespace Go.AM
open Go Go.Proofs
variable [Keep]
attribute [local irreducible] W WO WO1 WD WQ WT thenQ blockQ endR isRet retK Cl ClR
attribute [local irreducible] axisV bothV boundsS machB
theorem K105 {X : Ctx} (hX : X.intr 105 = some (pureFn sp105)) (sa ra ma : AV) (st : List Pt) (rs : List Rdg) (ms : List Held) (cx cy wx wy : Sp) (hl : slV ptC sa = some st) (hr : slV rdgC ra = some rs) (hm : slV heldC ma = some ms) (hb : ms.all blkB = true) (h : Heap) :
  Cl X 105 [.agg [sa, .int .i64 cx.lo, .int .i64 cx.hi, .int .i64 cy.lo, .int .i64 cy.hi, .int .i64 wx.lo, .int .i64 wx.hi, .int .i64 wy.lo, .int .i64 wy.hi, ra], ma] h (.ret (bothV cx cy wx wy ms) h none) :=
 Cl.intr hX (by simp [pureFn, AV.pur, AV.purL, sl_pur hl, sl_pur hr, sl_pur hm, sp105, hl, hr, hm, hb])
theorem axO_is (o : Option (List Sp)) : ∃ x, axO o = .tuple [x, .bool o.isSome] ∧ outV (some x) = some x ∧ isTuple x = false ∧ ∀ t, o = some t → t.length = 13 → x = .vslice (t.map spC.enc) := by
 cases o with
 | none => exact ⟨_, rfl, rfl, rfl, fun t h => by cases h⟩
 | some t =>
  refine ⟨_, rfl, (slN_is _).out, (slN_is _).tup, fun t' h h13 => ?_⟩
  cases h
  cases t with
  | nil => simp at h13
  | cons a r => rfl
theorem bothV_mach {st : List Pt} {cx cy wx wy : Sp} {rs : List Rdg} (h : machB st cx cy wx wy rs = true) : ∃ x y, bothV cx cy wx wy (marksOf rs) = .tuple [x, y, .bool ((boundsS (ax0 cx wx rs [])).isSome && (boundsS (ax1 cy wy rs [])).isSome)] ∧
  outV (some x) = some x ∧ outV (some y) = some y ∧ isTuple x = false ∧ isTuple y = false ∧ (∀ t, boundsS (ax0 cx wx rs []) = some t → x = .vslice (t.map spC.enc)) ∧ (∀ t, boundsS (ax1 cy wy rs []) = some t → y = .vslice (t.map spC.enc)) := by
 obtain ⟨x, e1, e2, e3, e4⟩ := axO_is (boundsS (ax0 cx wx rs []))
 obtain ⟨y, f1, f2, f3, f4⟩ := axO_is (boundsS (ax1 cy wy rs []))
 refine ⟨x, y, ?_, e2, f2, e3, f3, fun t ht => e4 t ht (boundsS_len ht), fun t ht => f4 t ht (boundsS_len ht)⟩
 unfold bothV
 rw [axisX h, axisY h, e1, f1]
 rfl
noncomputable def cP1 : FuncId → Option (List AV → Heap → Option (AV × Heap))
 | 105 => some (pureFn sp105)
 | 106 => some (pureFn sp106)
 | _ => none
theorem cP1_sound : Sound (dX cP1) := dX_sound (fun f g h => by
 unfold cP1 at h
 split at h
 ·cases h; exact F105
 ·cases h; exact F106
 ·cases h)
def sp104 : List AV → Option AV
 | [.agg [sa, .int .i64 cxl, .int .i64 cxh, .int .i64 cyl, .int .i64 cyh, .int .i64 wxl, .int .i64 wxh, .int .i64 wyl, .int .i64 wyh, ra]] => match slV ptC sa, slV rdgC ra with
  | some st, some rs => if machB st ⟨cxl, cxh⟩ ⟨cyl, cyh⟩ ⟨wxl, wxh⟩ ⟨wyl, wyh⟩ rs = true then some (.bool ((boundsS (ax0 ⟨cxl, cxh⟩ ⟨wxl, wxh⟩ rs [])).isSome && (boundsS (ax1 ⟨cyl, cyh⟩ ⟨wyl, wyh⟩ rs [])).isSome)) else none
  | _, _ => none
 | _ => none
theorem p104 : ∀ args v, sp104 args = some v → v.pur = true := by
 intro args v h
 unfold sp104 at h
 split at h
 ·split at h
  ·split at h
   ·cases h; rfl
   ·cases h
  ·cases h
 ·cases h
theorem slH_marks {rs : List Rdg} {ra : AV} (hr : slV rdgC ra = some rs) : slV heldC (slN ((marksOf rs).map heldC.enc)) = some (marksOf rs) := slV_slN (by simpa [marksOf] using sl_max hr)
set_option maxHeartbeats 1000000 in
theorem F104 : IntrFn Tryz.prog 104 (pureFn sp104) := by
 refine pure_fn (X := dX cP1) cP1_sound p104 ?_
 intro args v h
 unfold sp104 at h
 split at h
 ·rename_i sa cxl cxh cyl cyh wxl wxh wyl wyh ra
  split at h
  ·rename_i st rs hl hr
   split at h
   ·rename_i hok
    cases h
    obtain ⟨x, y, hv, hox, hoy, htx, hty, _, _⟩ := bothV_mach hok
    have hout := sl_out hr
    have hout2 := sl_out hl
    have h106 := fun hp => K106 (X := dX cP1) rfl sa ra st rs ⟨cxl, cxh⟩ ⟨cyl, cyh⟩ ⟨wxl, wxh⟩ ⟨wyl, wyh⟩ hl hr hp
    have hb := fun hp => K105 (X := dX cP1) rfl sa ra _ st rs _ ⟨cxl, cxh⟩ ⟨cyl, cyh⟩ ⟨wxl, wxh⟩ ⟨wyl, wyh⟩ hl hr (slH_marks hr) (marks_blk hok) hp
    rw [hv] at hb
    have hso := (slN_is ((marksOf rs).map heldC.enc)).out
    have hst := (slN_is ((marksOf rs).map heldC.enc)).tup
    generalize slN ((marksOf rs).map heldC.enc) = ma at *
    generalize ((boundsS (ax0 ⟨cxl, cxh⟩ ⟨wxl, wxh⟩ rs [])).isSome && (boundsS (ax1 ⟨cyl, cyh⟩ ⟨wyl, wyh⟩ rs [])).isSome) = b at *
    have H106 := Lib.hid h106
    have HB := Lib.hid hb
    clear h106 hb hv hl hr hok
    refine ClR.walk (c := _) rfl Tryz.func104 rfl (by kernel_rfl) rfl isRet_fail ?_
    simp only [entryEnv, Nat.reduceAdd]
    repeat' (first | (apply W.drawQ (id := 1) (l1 := [0, 1, 2, 3, 4, 5, 6, 7, 8, 9, 10]) (l2 := []); kernel_rfl; kernel_rfl; kernel_rfl; exact Z4) | refine go1 ?_ | (apply U6; exact Z1; exact Z1; (focus (simp only [List.nil_append, List.append_nil]; first | exact HB.out _ | exact H106.out _)); simp only [pM, pN, rR, rP]) | refine go2 (fun hh => ?_) (fun hh => ?_) | fail)
    all_goals (simp only [resV_def (X := dX cP1) Tryz.func104, Tryz.results104]; first | exact J5 | refine J6 ?_)
   ·cases h
  ·cases h
 ·cases h
theorem K104 {X : Ctx} (hX : X.intr 104 = some (pureFn sp104)) (sa ra : AV) (st : List Pt) (rs : List Rdg) (cx cy wx wy : Sp) (hl : slV ptC sa = some st) (hr : slV rdgC ra = some rs) (hok : machB st cx cy wx wy rs = true) (h : Heap) :
  Cl X 104 [.agg [sa, .int .i64 cx.lo, .int .i64 cx.hi, .int .i64 cy.lo, .int .i64 cy.hi, .int .i64 wx.lo, .int .i64 wx.hi, .int .i64 wy.lo, .int .i64 wy.hi, ra]] h (.ret (.bool ((boundsS (ax0 cx wx rs [])).isSome && (boundsS (ax1 cy wy rs [])).isSome)) h none) :=
 Cl.intr hX (by simp [pureFn, AV.pur, AV.purL, sl_pur hl, sl_pur hr, sp104, hl, hr, hok])
def ableI (ok : Bool) (p : Bool) : Int := if ok then (if p then 0 else 7) else 2
def sp40 : List AV → Option AV
 | [.agg [sa, .int .i64 cxl, .int .i64 cxh, .int .i64 cyl, .int .i64 cyh, .int .i64 wxl, .int .i64 wxh, .int .i64 wyl, .int .i64 wyh, ra]] => match slV ptC sa, slV rdgC ra with
  | some st, some rs => some (.int .i64 (ableI (machB st ⟨cxl, cxh⟩ ⟨cyl, cyh⟩ ⟨wxl, wxh⟩ ⟨wyl, wyh⟩ rs) ((boundsS (ax0 ⟨cxl, cxh⟩ ⟨wxl, wxh⟩ rs [])).isSome && (boundsS (ax1 ⟨cyl, cyh⟩ ⟨wyl, wyh⟩ rs [])).isSome)))
  | _, _ => none
 | _ => none
noncomputable def cP2 : FuncId → Option (List AV → Heap → Option (AV × Heap))
 | 71 => some (flatFn sp71)
 | 104 => some (pureFn sp104)
 | _ => none
theorem cP2_sound : Sound (dX cP2) := dX_sound (fun f g h => by
 unfold cP2 at h
 split at h
 ·cases h; exact F71
 ·cases h; exact F104
 ·cases h)
set_option maxHeartbeats 1000000 in
theorem F40 : IntrFn Tryz.prog 40 (pureFn sp40) := by
 refine pure_fn (X := dX cP2) cP2_sound (fun a v h => by
  unfold sp40 at h
  split at h
  ·split at h
   ·cases h; rfl
   ·cases h
  ·cases h) ?_
 intro args v h
 unfold sp40 at h
 split at h
 ·rename_i sa cxl cxh cyl cyh wxl wxh wyl wyh ra
  split at h
  ·rename_i st rs hl hr
   cases h
   have hout := sl_out hr
   have hout2 := sl_out hl
   have hm := fun hp => K71 (X := dX cP2) rfl sa ra st rs ⟨cxl, cxh⟩ ⟨cyl, cyh⟩ ⟨wxl, wxh⟩ ⟨wyl, wyh⟩ hl hr hp
   rw [machR_B] at hm
   have hp : machB st ⟨cxl, cxh⟩ ⟨cyl, cyh⟩ ⟨wxl, wxh⟩ ⟨wyl, wyh⟩ rs = true → ∀ hp, _ := fun hok hp => K104 (X := dX cP2) rfl sa ra st rs ⟨cxl, cxh⟩ ⟨cyl, cyh⟩ ⟨wxl, wxh⟩ ⟨wyl, wyh⟩ hl hr hok hp
   generalize ((boundsS (ax0 ⟨cxl, cxh⟩ ⟨wxl, wxh⟩ rs [])).isSome && (boundsS (ax1 ⟨cyl, cyh⟩ ⟨wyl, wyh⟩ rs [])).isSome) = b at *
   have HM := Lib.hid hm
   clear hm hl hr
   cases hok : machB st ⟨cxl, cxh⟩ ⟨cyl, cyh⟩ ⟨wxl, wxh⟩ ⟨wyl, wyh⟩ rs with
   | false =>
    have hr : ableI false b = 2 := rfl
    rw [hr]
    clear hp hr
    refine ClR.walk (c := _) rfl Tryz.func40 rfl (by kernel_rfl) rfl isRet_fail ?_
    simp only [entryEnv, Nat.reduceAdd]
    repeat' (first | refine goS ?_ | (apply U6; exact Z1; exact Z1; (focus (simp only [List.nil_append, List.append_nil]; first | exact HM.out _)); simp only [pM, pN, rR, rP]) | refine go2 (fun hh => ?_) (fun hh => ?_) | fail)
    all_goals (simp only [resV_def (X := dX cP2) Tryz.func40, Tryz.results40]; first | exact J5 | refine J6 ?_)
   | true =>
    have hp := hp hok
    have HP := Lib.hid hp
    clear hp
    refine ClR.walk (c := _) rfl Tryz.func40 rfl (by kernel_rfl) rfl isRet_fail ?_
    simp only [entryEnv, Nat.reduceAdd]
    repeat' (first | refine goS ?_ | (apply U6; exact Z1; exact Z1; (focus (simp only [List.nil_append, List.append_nil]; first | exact HM.out _ | exact HP.out _)); simp only [pM, pN, rR, rP]) | refine go2 (fun hh => ?_) (fun hh => ?_) | fail)
    all_goals (simp only [resV_def (X := dX cP2) Tryz.func40, Tryz.results40]; first | exact J5 | refine J6 ?_)
    all_goals (simp only [Bool.not_eq_true', Bool.not_eq_false'] at hh; simp [ableI, hh])
  ·cases h
 ·cases h
def slLen : AV → Option Nat
 | .nilslice => some 0
 | .vempty => some 0
 | .vslice l => some l.length
 | _ => none
theorem slLen_is {a : AV} {n : Nat} (h : slLen a = some n) : lenS a = some n ∧ outV (some a) = some a ∧ isTuple a = false := by
 unfold slLen at h
 split at h <;> first | (cases h; exact ⟨rfl, rfl, rfl⟩) | cases h
def sp38 : List AV → Option AV
 | [.agg [sa, .int .i64 cxl, .int .i64 cxh, .int .i64 cyl, .int .i64 cyh, .int .i64 wxl, .int .i64 wxh, .int .i64 wyl, .int .i64 wyh, ra]] => match slLen sa, slLen ra with
  | some m, some n => some (.bool (decide ((m : Int) ≤ 6) && decide ((n : Int) ≤ 6)))
  | _, _ => none
 | _ => none
theorem F38 : IntrFn Tryz.prog 38 (pureFn sp38) := by
 refine pure_fn (X := dX cP2) cP2_sound (fun a v h => by
  unfold sp38 at h
  split at h
  ·split at h
   ·cases h; rfl
   ·cases h
  ·cases h) ?_
 intro args v h
 unfold sp38 at h
 split at h
 ·rename_i sa cxl cxh cyl cyh wxl wxh wyl wyh ra
  split at h
  ·rename_i m n hl hr
   cases h
   obtain ⟨h1, h2, h3⟩ := slLen_is hl
   obtain ⟨g1, g2, g3⟩ := slLen_is hr
   clear hl hr
   refine ClR.walk (c := _) rfl Tryz.func38 rfl (by kernel_rfl) rfl isRet_fail ?_
   simp only [entryEnv, Nat.reduceAdd]
   repeat' (first | refine goS ?_ | refine go2 (fun hh => ?_) (fun hh => ?_) | fail)
   all_goals (simp only [resV_def (X := dX cP2) Tryz.func38, Tryz.results38]; first | exact J5 | refine J6 ?_)
   all_goals simp [*]
  ·cases h
 ·cases h
end Go.AM
namespace Go.AM
open Go Go.Proofs
variable [Keep]
attribute [local irreducible] W WO WO1 WD WQ WT thenQ blockQ endR isRet retK Cl ClR
attribute [local irreducible] boundsS machB
def okN (n : Int) : Bool := inB n (-80) 80
def truthB (xs ys : List Int) : Bool := ((xs.length : Int) == 13) && ((ys.length : Int) == 13) && xs.all okN && ys.all okN
def movedL (l : List Pt) (x y : Int) : List Pt := l.map fun p => ⟨w64 (p.x + x), w64 (p.y + y)⟩
def sp79 : List AV → Option AV
 | [a, .int .i64 x, .int .i64 y] => (slV ptC a).map fun l => slN ((movedL l x y).map ptC.enc)
 | _ => none
theorem p79 : ∀ args v, sp79 args = some v → v.pur = true := by
 intro args v h
 unfold sp79 at h
 split at h
 ·simp only [Option.map_eq_some_iff] at h
  obtain ⟨l, _, rfl⟩ := h
  exact slN_pur (enc_pur ptC _)
 ·cases h
set_option maxHeartbeats 1000000 in
theorem F79 : IntrFn Tryz.prog 79 (pureFn sp79) := by
 refine pure_fn (X := dX cQ) cQ_sound p79 ?_
 intro args v h
 unfold sp79 at h
 split at h
 ·rename_i a x y
  simp only [Option.map_eq_some_iff] at h
  obtain ⟨l, hl, rfl⟩ := h
  have hlen := sl_len hl
  have hout := sl_out hl
  have hmax := sl_max hl
  refine ClR.walk (c := _) rfl Tryz.func79 rfl (by kernel_rfl) rfl isRet_fail ?_
  simp only [entryEnv, Nat.reduceAdd]
  repeat' (first | refine goS ?_ | refine go2 (fun hh => ?_) (fun hh => ?_) | fail)
  refine W.loopN l.length (fun k F => ∃ e lm hp u, F = Fr.mk 79 false e lm hp [] none ∧ Blt hp u 2 ((movedL (l.take k) x y).map ptC.enc) ∧ e.get 0 = some a ∧ e.get 1 = some (.int .i64 x) ∧ e.get 2 = some (.int .i64 y) ∧ e.get 7 = some u ∧ e.get 8 = some (.int .i64 ↑k) ∧ k ≤ l.length) ?_ ?_
  ·refine ⟨_, _, _, _, rfl, Blt.nil, ?_, ?_, ?_, ?_, ?_, ?_⟩ <;> first | exact Z2 | simp [go_sem, *]
  rintro k F ⟨e, lm, hp, u, rfl, hB, h0, h1, h2, h7, h8, hk⟩
  have hbo := hB.out
  by_cases hlt : k < l.length
  ·obtain ⟨p, hp'⟩ := get_some hlt
   have hix := pts_idx hl hp'
   have hd : decide ((k : Int) < (l.length : Int)) = true := by simpa using hlt
   have hw := wrap_succ hlt hmax
   have hnx : movedL (l.take (k + 1)) x y = movedL (l.take k) x y ++ [⟨w64 (p.x + x), w64 (p.y + y)⟩] := by rw [take_next hp']; simp [movedL]
   have hll : ((movedL (l.take k) x y).map ptC.enc).length + 1 ≤ most := by
    simp only [movedL, List.length_map, List.length_take]; unfold most; unfold maxL at hmax; omega
   have HX := Lib.hid hnx
   clear hl hp' hnx
   repeat' (first | (apply W.drawQ (id := 5) (l1 := [0, 1, 2, 3, 4, 5, 6, 7, 8, 9, 10, 11, 12, 13, 14, 15, 16]) (l2 := [17, 18]); kernel_rfl; kernel_rfl; kernel_rfl; exact Z4) | (apply WO1.append (t := 22) (u := 22) (e := 38) (e' := 38) (sz := 2) (tl := []); (focus assumption); exact Z1; exact rfl; exact Z2; exact Z2; exact Z2; (focus (exact ty_row22)); exact Z1; (focus (intro v hv; simp at hv; rcases hv with rfl | rfl <;> rfl)); (focus (simp only [List.length_cons, List.length_nil]; exact hll)); (focus (simp)); (intro v' h' hB' ho' hK'; simp only [pM, pN])) | refine go1 ?_ | refine go2 (fun hh => ?_) (fun hh => ?_) | fail)
   refine ⟨hlt, _, _, _, v', rfl, ?_, ?_, ?_, ?_, ?_, ?_, by omega⟩
   ·rw [HX.out]; simpa [ptC, w64] using hB'
   all_goals exact Z2
  ·have hd : decide ((k : Int) < (l.length : Int)) = false := by simpa using hlt
   have hkl : k = l.length := by omega
   rw [hkl, List.take_length] at hB
   obtain ⟨h', hz, hz2, hz1⟩ := hB.freeze
   clear hkl hl
   repeat' (first | refine goS ?_ | refine go2 (fun hh => ?_) (fun hh => ?_) | fail)
   all_goals (simp only [resV_def (X := dX cQ) Tryz.func79, Tryz.results79]; first | exact J5 | refine J6 ?_)
 ·cases h
def sp138 : List AV → Option AV
 | [a, .agg [.int .i64 x, .int .i64 y]] => (slV ptC a).map fun l => slN ((movedL l x y).map ptC.enc)
 | _ => none
theorem p138 : ∀ args v, sp138 args = some v → v.pur = true := by
 intro args v h
 unfold sp138 at h
 split at h
 ·simp only [Option.map_eq_some_iff] at h
  obtain ⟨l, _, rfl⟩ := h
  exact slN_pur (enc_pur ptC _)
 ·cases h
set_option maxHeartbeats 1000000 in
theorem F138 : IntrFn Tryz.prog 138 (pureFn sp138) := by
 refine pure_fn (X := dX cQ) cQ_sound p138 ?_
 intro args v h
 unfold sp138 at h
 split at h
 ·rename_i a x y
  simp only [Option.map_eq_some_iff] at h
  obtain ⟨l, hl, rfl⟩ := h
  have hlen := sl_len hl
  have hout := sl_out hl
  have hmax := sl_max hl
  refine ClR.walk (c := _) rfl Tryz.func138 rfl (by kernel_rfl) rfl isRet_fail ?_
  simp only [entryEnv, Nat.reduceAdd]
  repeat' (first | refine goS ?_ | refine go2 (fun hh => ?_) (fun hh => ?_) | fail)
  refine W.loopN l.length (fun k F => ∃ e lm hp u, F = Fr.mk 138 false e lm hp [] none ∧ Blt hp u 2 ((movedL (l.take k) x y).map ptC.enc) ∧ lm.get 3 = some (0, [.int .i64 x, .int .i64 y]) ∧ e.get 3 = some (.lptr 3 0 0) ∧ e.get 5 = some u ∧ e.get 8 = some a ∧ e.get 9 = some (.int .i64 ↑l.length) ∧ e.get 10 = some (.int .i64 ↑k) ∧ k ≤ l.length) ?_ ?_
  ·refine ⟨_, _, _, _, rfl, Blt.nil, ?_, ?_, ?_, ?_, ?_, ?_, ?_⟩ <;> first | exact Z2 | simp [go_sem, *]
  rintro k F ⟨e, lm, hp, u, rfl, hB, hl3, h3, h5, h8, h9, h10, hk⟩
  have hbo := hB.out
  by_cases hlt : k < l.length
  ·obtain ⟨p, hp'⟩ := get_some hlt
   have hix := pts_idx hl hp'
   have hd : decide ((k : Int) < (l.length : Int)) = true := by simpa using hlt
   have hw := wrap_succ hlt hmax
   have hnx : movedL (l.take (k + 1)) x y = movedL (l.take k) x y ++ [⟨w64 (p.x + x), w64 (p.y + y)⟩] := by rw [take_next hp']; simp [movedL]
   have hll : ((movedL (l.take k) x y).map ptC.enc).length + 1 ≤ most := by
    simp only [movedL, List.length_map, List.length_take]; unfold most; unfold maxL at hmax; omega
   have HX := Lib.hid hnx
   clear hl hp' hnx
   repeat' (first | (apply WO1.append (t := 22) (u := 22) (e := 38) (e' := 38) (sz := 2) (tl := []); (focus assumption); exact Z1; exact rfl; exact Z2; exact Z2; exact Z2; (focus (exact ty_row22)); exact Z1; (focus (intro v hv; simp at hv; rcases hv with rfl | rfl <;> rfl)); (focus (simp only [List.length_cons, List.length_nil]; exact hll)); (focus (simp)); (intro v' h' hB' ho' hK'; simp only [pM, pN])) | refine go1 ?_ | refine go2 (fun hh => ?_) (fun hh => ?_) | fail)
   refine ⟨hlt, _, _, _, v', rfl, ?_, ?_, ?_, ?_, ?_, ?_, ?_, by omega⟩
   ·rw [HX.out]; simpa [ptC, w64] using hB'
   all_goals exact Z2
  ·have hd : decide ((k : Int) < (l.length : Int)) = false := by simpa using hlt
   have hkl : k = l.length := by omega
   rw [hkl, List.take_length] at hB
   obtain ⟨h', hz, hz2, hz1⟩ := hB.freeze
   clear hkl hl
   repeat' (first | refine goS ?_ | refine go2 (fun hh => ?_) (fun hh => ?_) | fail)
   all_goals (simp only [resV_def (X := dX cQ) Tryz.func138, Tryz.results138]; first | exact J5 | refine J6 ?_)
 ·cases h
end Go.AM
namespace Go.AM
open Go Go.Proofs
variable [Keep]
attribute [local irreducible] W WO WO1 WD WQ WT thenQ blockQ endR isRet retK Cl ClR
def stepB (w : Sp) (l : List Int) (k : Nat) : Bool := inB (w64 (l.getD (k + 1) 0 - l.getD k 0)) w.lo w.hi
def rdgF (r : Rdg) (xs ys : List Int) : Bool := inB (w64 (xs.getD r.b.toNat 0 - r.x)) (w64 (-r.err)) r.err && inB (w64 (ys.getD r.b.toNat 0 - r.y)) (w64 (-r.err)) r.err
def fitsR (cx cy wx wy : Sp) (rs : List Rdg) (xs ys : List Int) : Bool :=
 (inB (xs.getD 0 0) cx.lo cx.hi && inB (ys.getD 0 0) cy.lo cy.hi) && ((List.range 12).all (fun k => stepB wx xs k && stepB wy ys k) && rs.all (fun r => rdgF r xs ys))
end Go.AM
namespace Go.AM
open Go Go.Proofs
variable [Keep]
attribute [local irreducible] W WO WO1 WD WQ WT thenQ blockQ endR isRet retK Cl ClR
def inL (l : List Int) (m : Lim) : Bool := inB (l.getD m.b.toNat 0) m.lo m.hi
def fitsA (ax : Ax) (l : List Int) : Bool := inB (l.getD 0 0) ax.chuck.lo ax.chuck.hi && ((List.range 12).all (fun k => stepB ax.wear l k) && ax.limits.all (inL l))
def isFit (h : Heap) (b : Bool) (r : COut) : Prop := ∃ h', HExt h h' ∧ r = .ret (.bool b) h' none
attribute [local irreducible] isFit
theorem RdL.ext {h h' : Heap} {v : AV} {l : List Lim} (r : RdL h v l) (e : HExt h h') : RdL h' v l :=
 ⟨r.len, r.out, r.max, r.one, r.tup, fun k m hk hp hq => r.get k m hk hp (fun id hi => (hq id (Nat.lt_of_lt_of_le hi e.1)).trans (e.2 id hi))⟩
end Go.AM
namespace Go.AM
open Go Go.Proofs
variable [Keep]
attribute [local irreducible] W WO WO1 WD WQ WT thenQ blockQ endR isRet retK Cl ClR
attribute [local irreducible] boundsS machB
section
variable {X : Ctx} {f : FuncId} {ops : Array Oper} {ts : List (Nat × Trace)} {i k : Nat} {r : List (Nat × Nat)} {x : Oper} {d : Option Tmp} {op : Op} {T : TypeId} {ps : String} {af : Array Edge}
  {f1 f2 : FuncId} {r1 r2 : Bool} {e1 e2 : Mp AV} {lm1 lm2 : Mp (Nat × List AV)} {hp1 hp2 : Heap} {df1 df2 : List (AV × List AV)} {up1 up2 : Option (AV × Bool)} {v1 v2 : AV} {a1 a2 : Fr} {j : Nat} {want b : Bool} {o : Oper} {s : Tmp}
end
def fitsM (cx cy wx wy : Sp) (rs : List Rdg) (xs ys : List Int) : Bool := fitsA ⟨cx, wx, lims155 rs⟩ xs && fitsA ⟨cy, wy, lims156 rs⟩ ys
end Go.AM
namespace Go.AM
open Go
variable [Keep]
def viewD (h : Heap) (a : AV) : Option AV :=
 match a with
 | .agg l => (viewVs h l).map AV.agg
 | a => viewV h a
def viewDs (h : Heap) : List AV → Option (List AV)
 | [] => some []
 | a :: r => match viewD h a, viewDs h r with
  | some x, some l => some (x :: l)
  | _, _ => none
theorem viewV_one {h : Heap} {a a' : AV} (e : viewV h a = some a') (ho : a.one = true) : a'.one = true := by
 unfold viewV at e
 split at e
 ·split at e
  ·split at e
   ·split at e
    ·cases e; rfl
    ·cases e
   ·cases e
  ·cases e
 ·split at e
  ·cases e; exact ho
  ·cases e
theorem viewVs_get {h : Heap} : ∀ {l l' : List AV}, viewVs h l = some l' → l'.length = l.length ∧ ∀ i, i < l.length → viewV h (l.getD i .junk) = some (l'.getD i .junk) := by
 intro l
 induction l with
 | nil => intro l' e; simp only [viewVs, Option.some.injEq] at e; subst e; exact ⟨rfl, fun i hi => by simp at hi⟩
 | cons a l ih =>
  intro l' e
  simp only [viewVs] at e
  split at e
  ·rename_i x l1 hx hl
   cases e
   obtain ⟨h1, h2⟩ := ih hl
   refine ⟨by simp [h1], fun i hi => ?_⟩
   cases i with
   | zero => simpa using hx
   | succ i => simpa using h2 i (by simpa using hi)
  ·cases e
theorem purL_of : ∀ {l : List AV}, (∀ a ∈ l, a.pur = true) → AV.purL l = true := by
 intro l
 induction l with
 | nil => intro _; rfl
 | cons a l ih =>
  intro h
  simp only [AV.purL, Bool.and_eq_true]
  exact ⟨h a (by simp), ih (fun b hb => h b (by simp [hb]))⟩
variable {C : Cfg} {h : Heap} {w : World}
theorem viewD_ok (r : WR C h w) {a a' : AV} {v : Value} (hv : VR C a v) (e : viewD h a = some a') : a'.pur = true ∧ VR ⟨fun _ => none, w.cell?⟩ a' v := by
 unfold viewD at e
 split at e
 ·rename_i l
  simp only [Option.map_eq_some_iff] at e
  obtain ⟨l', e, rfl⟩ := e
  obtain ⟨e1, e2⟩ := viewVs_get e
  cases hv with
  | agg h1 h2 h3 =>
   have hk : ∀ i, i < l.length → (l'.getD i .junk).pur = true ∧ VR ⟨fun _ => none, w.cell?⟩ (l'.getD i .junk) _ := fun i hi => viewV_ok r (h2 i hi) (e2 i hi)
   refine ⟨?_, .agg (by omega) (fun i hi => (hk i (by omega)).2) (fun c hc => ?_)⟩
   ·simp only [AV.pur]
    refine purL_of fun b hb => ?_
    obtain ⟨i, hi⟩ := List.mem_iff_getElem?.1 hb
    have hil : i < l.length := by
     rcases Nat.lt_or_ge i l.length with q | q
     ·exact q
     ·rw [List.getElem?_eq_none (by omega)] at hi; cases hi
    have := (hk i hil).1
    simpa [List.getD, hi] using this
   ·obtain ⟨i, hi⟩ := List.mem_iff_getElem?.1 hc
    have hil : i < l.length := by
     rcases Nat.lt_or_ge i l.length with q | q
     ·exact q
     ·rw [List.getElem?_eq_none (by omega)] at hi; cases hi
    have h5 := e2 i hil
    have h6 : (l'.getD i .junk) = c := by simp [List.getD, hi]
    rw [h6] at h5
    refine viewV_one h5 (h3 _ ?_)
    have : l.getD i .junk = l[i] := by simp [List.getD, hil]
    rw [this]
    exact List.getElem_mem hil
 ·exact viewV_ok r hv e
theorem viewDs_ok (r : WR C h w) : ∀ {l l' : List AV} {vs : Array Value}, VRs C l vs → viewDs h l = some l' → (∀ a ∈ l', a.pur = true) ∧ VRs ⟨fun _ => none, w.cell?⟩ l' vs := by
 intro l
 induction l with
 | nil =>
  intro l' vs hv e
  simp only [viewDs, Option.some.injEq] at e
  subst e
  exact ⟨by simp, hv.1, fun i hi => by simp at hi⟩
 | cons a l ih =>
  intro l' vs hv e
  simp only [viewDs] at e
  split at e
  ·rename_i x l1 hx hl
   cases e
   have h0 : VR C a (vs.getD 0 undef) := by simpa using hv.2 0 (by simp)
   obtain ⟨p1, p2⟩ := viewD_ok r h0 hx
   have hsz : vs.size = l.length + 1 := by have := hv.1; simpa using this
   have ht : VRs C l (vs.extract 1 vs.size) := by
    refine ⟨by simp [hsz], fun i hi => ?_⟩
    have := hv.2 (i + 1) (by simp; omega)
    have e2 : (vs.extract 1 vs.size).getD i undef = vs.getD (i + 1) undef := by
     simp only [Array.getD_eq_getD_getElem?]
     rw [Array.getElem?_extract]
     have : i < vs.size - 1 := by omega
     simp [this, Nat.add_comm]
    rw [e2]
    simpa using this
   obtain ⟨q1, q2⟩ := ih ht hl
   refine ⟨by simpa [p1] using q1, ?_⟩
   have := VRs.cons p2 q2
   have e3 : #[vs.getD 0 undef] ++ vs.extract 1 vs.size = vs := by
    apply Array.ext_getElem?
    intro i
    cases i with
    | zero =>
     have : 0 < vs.size := by omega
     simp [Array.getElem?_append, Array.getD_eq_getD_getElem?, this]
    | succ i =>
     rw [Array.getElem?_append_right (by simp)]
     simp only [List.size_toArray, List.length_cons, List.length_nil, Nat.zero_add, Nat.add_sub_cancel, Array.getElem?_extract]
     by_cases hi : i < vs.size - 1
     ·simp [hi, Nat.add_comm]
     ·have : vs.size ≤ i + 1 := by omega
      simp [hi, this]
   rw [e3] at this
   exact this
  ·cases e
end Go.AM
namespace Go.AM
open Go
variable [Keep]
theorem Blt.view {h : Heap} {v : AV} {sz : Nat} {l : List AV} (b : Blt h v sz l) (hp : ∀ a ∈ l, a.pur = true) : viewV h v = some (slN l) := by
 rcases b with ⟨rfl, rfl⟩ | ⟨id, rfl, hg, h3, hne⟩
 ·rfl
 ·have h1 : AV.purL l = true := purL_of hp
  cases l with
  | nil => exact absurd rfl hne
  | cons x l => simp [viewV, hg, h1, slN]
structure Four (h : Heap) (a b c d : AV) (k l m n : List AV) : Prop where
 ba : Blt h a 1 k
 bb : Blt h b 1 l
 bc' : Blt h c 1 m
 bd' : Blt h d 1 n
 ab : Sep a b
 ac : Sep a c
 ad : Sep a d
 bc : Sep b c
 bd : Sep b d
 cd : Sep c d
section
variable {h h' : Heap} {a b c d v : AV} {k l m n r : List AV} {i : Nat}
theorem Four.nil : Four h .nilslice .nilslice .nilslice .nilslice [] [] [] [] := ⟨.nil, .nil, .nil, .nil, .nil _, .nil _, .nil _, .nil _, .nil _, .nil _⟩
theorem Four.one (q : Four h a b c d k l m n) (hb : Blt h' v 1 r) (hk : Keeps h h' a) (he : v = .row h.next 0 i) : Four h' v b c d r l m n := by
 subst he
 exact ⟨hb, q.bb.apart hk q.ab, q.bc'.apart hk q.ac, q.bd'.apart hk q.ad, .new q.bb (Nat.le_refl _) _, .new q.bc' (Nat.le_refl _) _, .new q.bd' (Nat.le_refl _) _, q.bc, q.bd, q.cd⟩
theorem Four.turn (q : Four h a b c d k l m n) : Four h b c d a l m n k := ⟨q.bb, q.bc', q.bd', q.ba, q.bc, q.bd, q.ab.symm, q.cd, q.ac.symm, q.ad.symm⟩
theorem Four.two (q : Four h a b c d k l m n) (hb : Blt h' v 1 r) (hk : Keeps h h' b) (he : v = .row h.next 0 i) : Four h' a v c d k r m n := (q.turn.one hb hk he).turn.turn.turn
end
end Go.AM
namespace Go.AM
open Go Go.Proofs
variable [Keep]
attribute [local irreducible] W WO WO1 WD WQ WT thenQ blockQ endR isRet retK Cl ClR
attribute [local irreducible] boundsS machB fitsM fitsR truthB
theorem K138 {X : Ctx} (hX : X.intr 138 = some (pureFn sp138)) (a : AV) (l : List Pt) (x y : Int) (ha : slV ptC a = some l) (h : Heap) : Cl X 138 [a, .agg [.int .i64 x, .int .i64 y]] h (.ret (slN ((movedL l x y).map ptC.enc)) h none) :=
 Cl.intr hX (by simp [pureFn, AV.pur, AV.purL, sl_pur ha, sp138, ha])
end Go.AM
