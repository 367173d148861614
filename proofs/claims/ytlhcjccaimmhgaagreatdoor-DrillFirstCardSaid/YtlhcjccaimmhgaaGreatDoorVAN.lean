/-
  A part of the proof: contracts of functions.
-/
import Derived.Test.YtlhcjccaimmhgaaGreatDoorVAM
import Derived.Test.YtlhcjccaimmhgaaGreatDoorVAK
import Derived.Test.YtlhcjccaimmhgaaGreatDoorVAI
set_option linter.unusedSectionVars false
set_option linter.unusedVariables false
set_option linter.unusedSimpArgs false
set_option maxRecDepth 100000
namespace Go.AM
open Go Go.Proofs
variable [Keep]
attribute [local irreducible] W WO WO1 WD WQ WT thenQ blockQ endR isRet retK Cl ClR
attribute [local irreducible] roundQ RdR
theorem calm_end {X : Ctx} {f : FuncId} {ops : Array Oper} {ts : List (Nat × Trace)} : ([] : List (Nat × Nat)).all (calmPair X f ops ts) = true := rfl
def natsV (p : List Nat) : List AV := p.map fun k : Nat => AV.int .i64 (k : Int)
theorem natsV_len (p : List Nat) : (natsV p).length = p.length := by simp [natsV]
theorem natsV_ints (p : List Nat) : natsV p = (p.map fun k : Nat => (k : Int)).map intC.enc := by simp [natsV, intC]
theorem natsV_pur (p : List Nat) : ∀ a ∈ natsV p, a.pur = true := by
 intro a ha
 obtain ⟨k, _, rfl⟩ := List.mem_map.1 ha
 rfl
theorem purL_all : ∀ {l : List AV}, (∀ a ∈ l, a.pur = true) -> AV.purL l = true := by
 intro l
 induction l with
 | nil => intro _; rfl
 | cons a l ih =>
  intro h
  simp only [AV.purL, Bool.and_eq_true]
  exact ⟨h a (by simp), ih (fun b hb => h b (by simp [hb]))⟩
theorem Blt.seen {h : Heap} {v : AV} {sz : Nat} {l : List AV} (b : Blt h v sz l) (hp : ∀ a ∈ l, a.pur = true) : viewV h v = some (slN l) := by
 rcases b with ⟨rfl, rfl⟩ | ⟨id, rfl, hg, h3, hne⟩
 ·rfl
 ·have h1 : AV.purL l = true := purL_all hp
  cases l with
  | nil => exact absurd rfl hne
  | cons x l => simp [viewV, hg, h1, slN]
section
variable {X : Ctx} {ops : Array Oper} {K P : AV -> Fr -> Prop} {F : Fr} {d : Option Tmp} {T : TypeId} {p : String} {af : Array Edge}
theorem WO1.append0 {args : Array Operand} {at_ : Array TypeId} {t u e e' : TypeId} {tl : List TypeId} {sz : Nat} {x y : AV} {new : List AV} (hx : x = .vempty \/ x = .nilslice) (hargs : F.opvs args.toList = some [x, y]) (ht : at_.toList = t :: u :: tl) (hu : X.P.underlying u = some (.slice e'))
  (hel : elemT X.P t = some e) (hs : szT X.P e = sz) (hrow : rowable X.P e = true) (hy : F.hp.elems y = some new) (hsz : ∀ v ∈ new, v.cells.length = sz) (hlen : new.length <= most) (hne : new ≠ [])
  (h : K (.row F.hp.next 0 new.length) (({ F with hp := F.hp.new (.rw sz new) } : Fr).put d (.row F.hp.next 0 new.length))) : WO1 X ops ⟨d, .call ⟨.builtin .append, args, at_⟩, T, p, af, none⟩ F K P := by
 subst hs
 have h1 : (new.all fun v => v.cells.length == szT X.P e) = true := List.all_eq_true.2 fun v hv => by simpa using hsz v hv
 have h2 : ¬ new.length = 0 := by simpa using hne
 have e1 : appendV X.P F t x new = some (.row F.hp.next 0 new.length, { F with hp := F.hp.new (.rw (szT X.P e) new) }) := by
  rcases hx with rfl | rfl <;> simp [appendV, hel, h1, hrow, hlen, h2, hne]
 refine U5 (v := .row F.hp.next 0 new.length) (F' := { F with hp := F.hp.new (.rw (szT X.P e) new) }) rfl (fun cl rd => ?_) h
 simp only [efV, Fr.callOp, Fr.builtinE, Fr.appendE, ht, hargs, hu]
 cases y <;> first | (simp only [hy, e1, okO]; done) | simp [Heap.elems] at hy
end
theorem K166 {X : Ctx} (hX : X.intr 166 = some (flatFn sp166)) (a : AV) (l : List Int) (v : Int) (ha : slV intC a = some l) (h : Heap) : Cl X 166 [a, .int .i64 v] h (.ret (.int .i64 (idxOf (fun x => decide (v = x)) l)) h none) :=
 Cl.intr hX (by simp [flatFn, viewVs, view_pur (sl_pur ha), view_pur (a := .int .i64 v) rfl, sp166, ha])
def sp116 : List AV -> Option AV
 | [a, .int .i64 v] => (slV intC a).map fun l => .bool (l.any fun x => decide (v = x))
 | _ => none
theorem p116 : ∀ args v, sp116 args = some v -> v.flat = true := by
 intro args v h
 unfold sp116 at h
 split at h
 ·simp only [Option.map_eq_some_iff] at h; obtain ⟨l, _, rfl⟩ := h; rfl
 ·cases h
noncomputable def cFA : Itr
 | 166 => some (flatFn sp166)
 | _ => none
theorem cFA_sound : Sound (dX cFA) := dX_sound (fun f g h => by
 unfold cFA at h
 split at h
 ·cases h; exact F166
 ·cases h)
theorem F116 : IntrFn Tryz.prog 116 (flatFn sp116) := by
 refine flat_fn (X := dX cFA) cFA_sound p116 ?_
 intro args v h
 unfold sp116 at h
 split at h
 ·rename_i a v
  simp only [Option.map_eq_some_iff] at h
  obtain ⟨l, hl, rfl⟩ := h
  have hout := sl_out hl
  have hb := idxOf_any (fun x => decide (v = x)) l
  rw [<- hb]
  have k166 : ∀ h, Cl (dX cFA) 166 [a, .int .i64 v] h (.ret (.int .i64 (idxOf (fun x => decide (v = x)) l)) h none) := fun h => K166 rfl a l v hl h
  generalize idxOf (fun x => decide (v = x)) l = n at *
  clear hl hb
  refine ClR.walk (c := _) rfl Tryz.func116 rfl (by kernel_rfl) rfl isRet_fail ?_
  simp only [entryEnv, Nat.reduceAdd]
  repeat' (first | refine goS ?_ | (apply U6; exact Z1; exact Z1; (focus (simp only [List.nil_append, List.append_nil]; first | exact k166 _)); simp only [pM, pN, rR, rP]) | refine go2 (fun hh => ?_) (fun hh => ?_) | fail)
  all_goals (simp only [resV_def (X := dX cFA) Tryz.func116, Tryz.results116]; first | exact J5 | refine J6 ?_)
 ·cases h
theorem any_nats (p : List Nat) (v : Nat) : (p.map fun k : Nat => (k : Int)).any (fun x => decide ((v : Int) = x)) = p.contains v := by
 induction p with
 | nil => rfl
 | cons a p ih =>
  simp only [List.map_cons, List.any_cons, List.contains_cons, ih]
  congr 1
  rw [Bool.eq_iff_iff]
  simp
  omega
theorem K116 {X : Ctx} (hX : X.intr 116 = some (flatFn sp116)) (a : AV) (p : List Nat) (v : Nat) (h : Heap) (b : Blt h a 1 (natsV p)) (hm : p.length <= maxL) : Cl X 116 [a, .int .i64 (v : Nat)] h (.ret (.bool (p.contains v)) h none) :=
 Cl.intr hX (by
  have e1 := b.seen (natsV_pur p)
  have e2 : slV intC (slN (natsV p)) = some (p.map fun k : Nat => (k : Int)) := by
   rw [natsV_ints]
   exact slV_slN (by simpa using hm)
  have e3 := any_nats p v
  simp only [flatFn, viewVs, e1, view_pur (a := .int .i64 (v : Int)) rfl, sp116, e2, Option.map_some, e3])
def clR (h : Heap) (l : List AV) (r : COut) : Prop := ∃ v h', r = .ret v h' none /\ BltN h.next h' v 1 l /\ HExt h h'
theorem clR_fail {h : Heap} {l : List AV} : ¬ clR h l .fail := by rintro ⟨_, _, e, _⟩; cases e
theorem clR_ret {h h' : Heap} {v : AV} {l : List AV} (b : BltN h.next h' v 1 l) (x : HExt h h') : clR h l (.ret v h' none) := ⟨v, h', rfl, b, x⟩
attribute [local irreducible] clR
theorem hext_new (h : Heap) (b : Blk) : HExt h (h.new b) := ⟨Nat.le_succ _, fun id hi => by rw [Heap.get_new, if_neg (by omega)]⟩
theorem eq39n : binV Tryz.prog .eql 39 true .nilslice .nilslice = some (.bool true) := by
 simp [binV, eqOp, eqV, isSliceT, whenB, Tryz.underlying39]
theorem eq39r (id n : Nat) : binV Tryz.prog .eql 39 true (.row id 0 n) .nilslice = some (.bool false) := by
 simp [binV, eqOp, eqV, isSliceT, whenB, Tryz.underlying39]
theorem C118 (c : Itr) (hc : c 118 = none) (a : AV) (p : List Nat) (h : Heap) (b : Blt h a 1 (natsV p)) (hm : p.length <= 1000) : ClR (dX c) 118 [a] h (clR h (natsV p)) := by
 have hsz : ∀ v ∈ natsV p, v.cells.length = 1 := fun v hv => by
  obtain ⟨k, _, rfl⟩ := List.mem_map.1 hv
  rfl
 have hlen : (natsV p).length <= most := by rw [natsV_len]; unfold most; omega
 refine ClR.walk (c := _) hc Tryz.func118 rfl (by kernel_rfl) rfl clR_fail ?_
 simp only [entryEnv, Nat.reduceAdd]
 rcases b with ⟨rfl, hnil⟩ | ⟨id, rfl, hg, hid, hne⟩
 ·have HN := Lib.hid hnil
  have hq := eq39n
  clear hsz hlen hnil
  repeat' (first | refine goS ?_ | refine go2 (fun hh => ?_) (fun hh => ?_) | fail)
  all_goals (simp only [resV_def (X := dX c) Tryz.func118, Tryz.results118]; first | exact J5 | refine J6 ?_)
  rw [HN.out]
  exact clR_ret BltN.nil (HExt.refl h)
 ·have hel : h.elems (.row id 0 (natsV p).length) = some (natsV p) := by simp [Heap.elems, hg]
  have hq := eq39r id (natsV p).length
  have HG := Lib.hid hg
  have HI := Lib.hid hid
  clear hg hid
  repeat' (first | (apply WO1.append0 (t := 39) (u := 39) (e := 3) (e' := 3) (sz := 1) (tl := []) (new := natsV p) (hx := .inl rfl); exact Z1; exact rfl; exact Z2; exact Z2; exact Z2; (focus (exact ty_row39)); (focus (first | exact Z2 | exact hel)); (focus (exact hsz)); (focus (exact hlen)); (focus (exact hne)); simp only [pM, pN]) | refine go1 ?_ | refine go2 (fun hh => ?_) (fun hh => ?_) | fail)
  all_goals (simp only [resV_def (X := dX c) Tryz.func118, Tryz.results118]; first | exact J5 | refine J6 ?_)
  refine clR_ret (.inr ⟨h.next, rfl, ?_, Nat.le_refl _, Nat.lt_succ_self _, hne⟩) (hext_new _ _)
  rw [Heap.get_new, if_pos rfl]
end Go.AM
namespace Go.AM
open Go Go.Proofs
variable [Keep]
attribute [local irreducible] W WO WO1 WD WQ WT thenQ blockQ endR isRet retK Cl ClR
attribute [local irreducible] roundQ RdR clR
def srch (n : Nat) (acc : List Nat -> Bool) : Nat -> List Nat -> Option (List Nat)
 | 0, p => if acc p then some p else none
 | d + 1, p => (List.range n).findSome? fun i => if p.contains i then none else srch n acc d (p ++ [i])
theorem find_none {α : Type} {n : Nat} {f : Nat -> Option α} (h : ∀ j, j < n -> f j = none) : (List.range n).findSome? f = none := by
 rw [List.findSome?_eq_none_iff]
 intro j hj
 exact h j (by simpa using hj)
theorem find_some {α : Type} {f : Nat -> Option α} {o : α} : ∀ {n i : Nat}, (∀ j, j < i -> f j = none) -> f i = some o -> i < n -> (List.range n).findSome? f = some o := by
 intro n
 induction n with
 | zero => intro i _ _ h; omega
 | succ n ih =>
  intro i h1 h2 h3
  rw [List.range_succ, List.findSome?_append]
  by_cases hi : i < n
  ·rw [ih h1 h2 hi]; rfl
  ·obtain rfl : i = n := by omega
   rw [find_none h1]
   simp [h2]
def NatsLt (n : Nat) (p : List Nat) : Prop := ∀ k ∈ p, k < n
end Go.AM
namespace Go.AM
open Go Go.Proofs
variable [Keep]
attribute [local irreducible] W WO WO1 WD WQ WT thenQ blockQ endR isRet retK Cl ClR
attribute [local irreducible] roundQ RdR clR
theorem C121 (c : Itr) (hc : c 121 = none) (n : Int) (pn : Nat) (pm : Mp Blk) :
  Cl (dX c) 121 [.int .i64 n] ⟨pn, pm⟩ (.ret (.func (.func 167) [] [.ptr pn 0]) ⟨pn + 1, pm.set pn (.var [.int .i64 n])⟩ none) := by
 refine ClR.cl ?_
 refine ClR.walk (c := _) hc Tryz.func121 rfl (by kernel_rfl) rfl (fun e => by cases e) ?_
 simp only [entryEnv, Nat.reduceAdd]
 repeat' (first | refine goS ?_ | refine go2 (fun hh => ?_) (fun hh => ?_) | fail)
 all_goals (simp only [resV_def (X := dX c) Tryz.func121, Tryz.results121]; first | exact J5 | refine J6 ?_)
 have e1 : ∀ (h : Heap) f a b, frz1 h (.func f a b) = some (.func f a b, h) := fun _ _ _ _ => rfl
 simp only [isR, frzRes, dX_frz, dFrz, freeze, frz2, e1, if_true]
theorem hget_set {pn : Nat} {pm : Mp Blk} {n i : Nat} {b : Blk} : (Heap.get ⟨pn, pm.set i b⟩ n) = if i = n then some b else Heap.get ⟨pn, pm⟩ n := by
 simp only [Heap.get, Mp.get_set]
end Go.AM
