/-
  A part of the proof: contracts of functions.
-/
import Derived.Test.YtkpbdjpekjdhcaaGreatDoorXAV
import Derived.Test.YtkpbdjpekjdhcaaGreatDoorXAT
import Derived.Test.YtkpbdjpekjdhcaaGreatDoorXAY
import Derived.Test.YtkpbdjpekjdhcaaGreatDoorXAX
import Derived.Test.YtkpbdjpekjdhcaaGreatDoorXAI
set_option linter.unusedSectionVars false
set_option linter.unusedVariables false
set_option linter.unusedSimpArgs false
set_option maxRecDepth 100000
namespace Go.AM
open Go Go.Proofs
variable [Keep]
attribute [local irreducible] W WO WO1 WD WQ WT thenQ blockQ endR isRet retK Cl ClR
open Go.TX (Rm Fa Ha Hs)
attribute [local irreducible] roundQ RdR
section
variable {σ : Type} {I D : σ -> Heap -> Prop} {own : Heap -> Nat -> Prop} (ok : OwnOk I own) {s s4 : σ} {h1 hq h' : Heap} {L1 : Nat} {bl : Blk}
include ok
theorem rnd_in (i : I s h1) (hn : hq.next = h1.next) (hg : ∀ j, j ≠ L1 -> hq.get j = h1.get j) (fL : ¬ own h1 L1) (nr : ∀ z r, h1.get L1 ≠ some (.rw z r)) : I s hq /\ ∀ id, own hq id -> own h1 id :=
 ok.lp s h1 hq L1 i fL nr hn hg
theorem back_put (i : I s4 h') (fL : ¬ own h' L1) (nr : ∀ z r, h'.get L1 ≠ some (.rw z r)) : I s4 (h'.put L1 bl) /\ ∀ id, own (h'.put L1 bl) id -> own h' id :=
 ok.lp s4 h' _ L1 i fL nr rfl fun id hid => by
  rw [Heap.get_put, if_neg (fun e => hid e.symm)]
theorem back_go (i : I s h1) (hn : hq.next = h1.next) (hg : ∀ j, j ≠ L1 -> hq.get j = h1.get j) (hL : h1.get L1 = some bl) (fL : ¬ own h1 L1) (lL : L1 < h1.next) (nr : ∀ z r, h1.get L1 ≠ some (.rw z r)) (nq : ∀ z r, hq.get L1 ≠ some (.rw z r)) (i4 : I s4 h') (kr : Rel own hq h') : I s4 (h'.put L1 bl) /\ Rel own h1 (h'.put L1 bl) := by
 obtain ⟨_, b2⟩ := rnd_in ok i hn hg fL nr
 have k := kr.2 L1 (by rw [hn]; exact lL) (fun ho => fL (b2 _ ho))
 obtain ⟨c1, c2⟩ := back_put ok (bl := bl) i4 k.2 (fun z r e => nq z r (k.1.symm.trans e))
 refine ⟨c1, ?_, fun id hid ho => ?_⟩
 ·show h1.next <= h'.next
  rw [<- hn]; exact kr.1
 ·have q := kr.2 id (by rw [hn]; exact hid) (fun k => ho (b2 _ k))
  refine ⟨?_, fun k => q.2 (c2 _ k)⟩
  rw [Heap.get_put]
  split
  ·rename_i e; subst e; exact hL.symm
  ·rename_i e; rw [q.1]; exact hg id (fun e' => e e'.symm)
end
def extP (rl : Nat) (p : List Int) : List (List Int) := (List.range (rl + 1)).map fun i : Nat => p ++ [(i : Int) - 1]
def allP (rl : Nat) : Nat -> List (List Int)
 | 0 => [[]]
 | k + 1 => (allP rl k).flatMap (extP rl)
theorem extP_len (rl : Nat) (p : List Int) : (extP rl p).length = rl + 1 := by unfold extP; simp
theorem allP_len (rl : Nat) : ∀ k, (allP rl k).length = (rl + 1) ^ k
 | 0 => rfl
 | k + 1 => by
  have ih := allP_len rl k
  unfold allP
  have : ∀ l : List (List Int), (l.flatMap (extP rl)).length = l.length * (rl + 1) := by
   intro l
   induction l with
   | nil => simp
   | cons a l ih => rw [List.flatMap_cons, List.length_append, extP_len, ih, List.length_cons, Nat.add_mul, Nat.one_mul, Nat.add_comm]
  rw [this, ih, Nat.pow_succ]
def allB (rl : Nat) : Nat -> List (List Int)
 | 0 => [[]]
 | k + 1 => (List.range (rl + 1)).flatMap fun i : Nat => (allB rl k).map fun q => ((i : Int) - 1) :: q
theorem flatMap_map' {α β γ : Type} (f : α -> β) (g : β -> List γ) : ∀ l : List α, (l.map f).flatMap g = l.flatMap fun x => g (f x)
 | [] => rfl
 | a :: l => by simp only [List.map_cons, List.flatMap_cons, flatMap_map' f g l]
theorem flatMap_flatMap' {α β γ : Type} (f : α -> List β) (g : β -> List γ) : ∀ l : List α, (l.flatMap f).flatMap g = l.flatMap fun x => (f x).flatMap g
 | [] => rfl
 | a :: l => by simp only [List.flatMap_cons, List.flatMap_append, flatMap_flatMap' f g l]
theorem map_flatMap' {α β γ : Type} (f : α -> List β) (g : β -> γ) : ∀ l : List α, (l.flatMap f).map g = l.flatMap fun x => (f x).map g
 | [] => rfl
 | a :: l => by simp only [List.flatMap_cons, List.map_append, map_flatMap' f g l]
theorem flat_single {α β : Type} (f : α -> β) : ∀ l : List α, (l.flatMap fun x => [f x]) = l.map f
 | [] => rfl
 | a :: l => by simp only [List.flatMap_cons, List.map_cons, flat_single f l]; rfl
theorem allB_all (rl : Nat) : ∀ k, allB rl k = allP rl k
 | 0 => rfl
 | k + 1 => by
  have ih := allB_all rl k
  have key : ∀ k, allB rl (k + 1) = (allB rl k).flatMap (extP rl) := by
   intro k
   induction k with
   | zero =>
    simp [allB, extP]
    exact flat_single _ _
   | succ k ih2 =>
    rw [allB]
    conv => lhs; rw [ih2]
    conv => rhs; rw [allB]
    rw [flatMap_flatMap']
    congr 1
    funext i
    rw [map_flatMap', flatMap_map']
    congr 1
    funext q
    unfold extP
    simp only [List.map_map]
    rfl
  rw [key k, ih]
  rfl
theorem paths_all (rl : Nat) : ∀ d p, pathsL (fun _ _ => true) rl d p = (allP rl d).map (p ++ ·)
 | 0, p => by simp [pathsL, allP]
 | d + 1, p => by
  rw [<- allB_all, pathsL, allB, map_flatMap']
  congr 1
  funext i
  rw [if_pos rfl, paths_all rl d, List.map_map, allB_all]
  congr 1
  funext q
  simp
theorem paths_top (rl n : Nat) : pathsL (fun _ _ => true) rl n [] = allP rl n := by
 rw [paths_all]
 simp
theorem allP_mem {rl : Nat} : ∀ {k : Nat} {p : List Int}, p ∈ allP rl k -> p.length = k /\ PLt rl p
 | 0, p, h => by
  simp [allP] at h
  subst h
  exact ⟨rfl, fun x hx => by simp at hx⟩
 | k + 1, p, h => by
  rw [allP, List.mem_flatMap] at h
  obtain ⟨q, h1, h2⟩ := h
  obtain ⟨h3, h4⟩ := allP_mem h1
  unfold extP at h2
  obtain ⟨i, h5, rfl⟩ := List.mem_map.1 h2
  exact ⟨by simp [h3], h4.app (List.mem_range.1 h5)⟩
def AllV (h : Heap) (v : AV) (k : Nat) (ls : List (List Int)) : Prop := (k = 0 /\ v = .vslice [.nilslice] /\ ls = [[]]) \/ Blt2 h v 1 (ls.map intsE)
theorem AllV.keep {h h' : Heap} {v : AV} {k : Nat} {ls : List (List Int)} (q : AllV h v k ls) (x : HExt h h') : AllV h' v k ls := by
 rcases q with q | q
 ·exact .inl q
 ·exact .inr (q.keep x)
theorem AllV.out {h : Heap} {v : AV} {k : Nat} {ls : List (List Int)} (q : AllV h v k ls) : outV (some v) = some v /\ lenS v = some ls.length := by
 rcases q with ⟨_, rfl, rfl⟩ | q
 ·exact ⟨rfl, rfl⟩
 ·have := q.len
  rw [List.length_map] at this
  exact ⟨q.out, this⟩
theorem AllV.read {h : Heap} {v : AV} {k : Nat} {ls : List (List Int)} (q : AllV h v k ls) {j : Nat} {p : List Int} (hj : ls[j]? = some p) : ∃ b, (h.elems b = some (intsE p) /\ outV (some b) = some b /\ b.cells = [b] /\ isTuple b = false) /\
  ((∀ H, indexAddrV Tryz.prog H 36 v (.int .i64 (j : Int)) = some (.vptr [b])) \/ ∃ id el, h.get id = some (.rw 1 el) /\ el[j]? = some b /\ indexAddrV Tryz.prog h 36 v (.int .i64 (j : Int)) = some (.eptr id 1 j 0)) := by
 rcases q with ⟨_, rfl, rfl⟩ | ⟨el, hb, hl, hi⟩
 ·cases j with
  | succ j => simp at hj
  | zero =>
   simp at hj
   subst hj
   refine ⟨.nilslice, ⟨rfl, rfl, rfl, rfl⟩, .inl fun H => ?_⟩
   have : isSl (.vslice [.nilslice]) [AV.nilslice] := .inr rfl
   exact this.idx (hp := H) (x := .nilslice) (m := 1) Tryz.underlying36 ty_lay24 (k := 0) rfl rfl
 ·obtain ⟨hj1, hj2⟩ := List.getElem?_eq_some_iff.1 hj
  rw [List.length_map] at hl
  have h1 := hi j (by omega)
  have e1 : (ls.map intsE).getD j [] = intsE p := by simp [List.getD, hj]
  rw [e1] at h1
  rcases hb with ⟨rfl, rfl⟩ | ⟨id, rfl, h2, h3, h4⟩
  ·simp at hl; omega
  ·obtain ⟨b, hbj⟩ := get_some (l := el) (k := j) (by omega)
   have e2 : el.getD j .junk = b := by simp [List.getD, hbj]
   rw [e2] at h1
   refine ⟨b, ?_, .inr ⟨id, el, h2, hbj, ?_⟩⟩
   ·rcases h1 with ⟨rfl, h5⟩ | ⟨id', rfl, h5, h6, h7, h8⟩
    ·rw [h5]; exact ⟨rfl, rfl, rfl, rfl⟩
    ·exact ⟨by simp [Heap.elems, h5], rfl, rfl, rfl⟩
   ·have hix : idxV (.int .i64 (j : Int)) el.length = some j := by
     simp only [idxV]
     rw [if_pos (by constructor <;> omega)]
     simp
    simp only [indexAddrV, Tryz.underlying36, ty_lay24, hix, h2, if_true, Nat.zero_add]
def sp99 : List AV -> Option AV
 | [x] => match hsV x with
  | some m => if houseB m = true then some (slN (rowsE (allP m.rooms.length m.hours.toNat))) else none
  | none => none
 | _ => none
attribute [local irreducible] houseB allP
section
variable {c : Itr}
theorem C87 (hc : c 87 = none) (n : Int) (ra fa oa ha sv : AV) (h1 : outV (some ra) = some ra) (h2 : outV (some fa) = some fa) (h3 : outV (some oa) = some oa) (h4 : outV (some ha) = some ha) (h5 : outV (some sv) = some sv) (hcs : sv.cells = [sv]) (htu : isTuple sv = false) (hn : Nat) (hmm : Mp Blk) :
  Cl (dX c) 87 [.agg [.int .i64 n, ra, fa, oa, ha], sv] ⟨hn, hmm⟩ (.ret (.func (.func 138) [] [.ptr hn 0, .ptr (hn + 1) 0]) ⟨hn + 1 + 1, (hmm.set hn (.var [.int .i64 n, ra, fa, oa, ha])).set (hn + 1) (.var [sv])⟩ none) := by
 refine ClR.cl ?_
 simp only [AV.cells] at hcs
 simp only [isTuple] at htu
 refine ClR.walk (c := _) hc Tryz.func87 rfl (by kernel_rfl) rfl (fun e => by cases e) ?_
 try simp only [entryEnv, Nat.reduceAdd, List.nil_append, List.cons_append, emptyHp]
 repeat' (first | refine goS ?_ | (refine go2 ?_ ?_ <;> intro hh) | fail)
 all_goals (simp only [resV_def (X := dX c) Tryz.func87, Tryz.results87]; first | exact J5 | refine J6 ?_)
 all_goals rfl
end
end Go.AM
namespace Go.AM
open Go Go.Proofs
variable [Keep]
attribute [local irreducible] W WO WO1 WD WQ WT thenQ blockQ endR isRet retK Cl ClR
open Go.TX (Rm Fa Ha Hs)
def pathB (m : Hs) (p : List Int) : Bool := ((p.length : Int) == m.hours) && p.all fun r => inB r (-1) (w64 (m.rooms.length - 1))
def walkR (b : Bool) (h : Heap) (r : COut) : Prop := if b = true then r = .ret (.tuple []) h none else ∃ x, r = .pan (.iface 205 (.agg [.int .i64 x])) h none
theorem walkR_fail {b : Bool} {h : Heap} : ¬ walkR b h .fail := by
 unfold walkR
 split
 ·intro e; cases e
 ·rintro ⟨_, e⟩; cases e
attribute [local irreducible] walkR
theorem walkR_t {h : Heap} : walkR true h (.ret (.tuple []) h none) := by unfold walkR; simp
theorem walkR_f {h : Heap} {x : Int} : walkR false h (.pan (.iface 205 (.agg [.int .i64 x])) h none) := by unfold walkR; simp
section
variable {c : Itr}
set_option maxHeartbeats 4000000 in
theorem C170 (h170 : c 170 = none) (h102 : c 102 = some (pureFn sp102)) (m : Hs) (ra fa oa ha pa : AV) (p : List Int) (hm : HsA m ra fa oa ha) (hp : slV intC pa = some p) (h : Heap) :
  ClR (dX c) 170 [.agg [.int .i64 m.hours, ra, fa, oa, ha], pa] h (walkR (pathB m p) h) := by
 have l1 := sl_len hm.r
 have o1 := sl_out hm.r
 have o2 := sl_out hm.f
 have o3 := sl_out hm.o
 have o4 := sl_out hm.h
 have lp := sl_len hp
 have op := sl_out hp
 have mp := sl_max hp
 have HP := J1 hp
 have k102 := fun x h => K102 (X := dX c) h102 x (-1) (IntKind.i64.wrap (m.rooms.length - 1)) h
 have K1 := J1 k102
 have hS : pathB m p = (((p.length : Int) == m.hours) && p.all fun r => inB r (-1) (IntKind.i64.wrap (m.rooms.length - 1))) := rfl
 rw [hS]
 clear hm hp k102 hS
 cases hq : ((p.length : Int) == m.hours) with
 | false =>
  have hq' : ((p.length : Int) != m.hours) = true := by rw [bne, hq]; rfl
  rw [Bool.false_and]
  refine ClR.walk (c := _) h170 Tryz.func170 rfl (by kernel_rfl) rfl walkR_fail ?_
  try simp only [entryEnv, Nat.reduceAdd, List.nil_append, List.cons_append, emptyHp]
  repeat' (first | (apply WO1.panic; exact rfl; (focus (intro cl rd; simp only [go_sem, *, Nat.reduceLT, Int.reduceEq, Int.reduceBEq, Int.reduceLE, Int.reduceLT, Nat.reduceAdd, Nat.reduceBEq, Nat.reduceEqDiff, reduceIte, Nat.reduceLeDiff, Nat.reduceMul, Nat.reduceSub, reduceCtorEq, efV, Fr.panicE]; with_reducible rfl)); simp only [tP, bP, eP, true_and]) | refine go1 ?_ | (refine go2 ?_ ?_ <;> intro hh) | fail)
  all_goals exact walkR_f
 | true =>
  have hq' : ((p.length : Int) != m.hours) = false := by rw [bne, hq]; rfl
  rw [Bool.true_and]
  refine ClR.walk (c := _) h170 Tryz.func170 rfl (by kernel_rfl) rfl walkR_fail ?_
  try simp only [entryEnv, Nat.reduceAdd, List.nil_append, List.cons_append, emptyHp]
  repeat' (first | (apply WO1.panic; exact rfl; (focus (intro cl rd; simp only [go_sem, *, Nat.reduceLT, Int.reduceEq, Int.reduceBEq, Int.reduceLE, Int.reduceLT, Nat.reduceAdd, Nat.reduceBEq, Nat.reduceEqDiff, reduceIte, Nat.reduceLeDiff, Nat.reduceMul, Nat.reduceSub, reduceCtorEq, efV, Fr.panicE]; with_reducible rfl)); simp only [tP, bP, eP, true_and]) | refine go1 ?_ | (refine go2 ?_ ?_ <;> intro hh) | fail)
  refine W.loopH (p.length) [2, 15, 16] [2] (fun k e lm => e.get 17 = some (.int .i64 ↑k) /\ (p.take k).all (fun r => inB r (-1) (IntKind.i64.wrap (m.rooms.length - 1))) = true) ?_ ?_
  ·skip
   refine ⟨?_, ?_⟩
   all_goals first | exact Z2 | (simp [go_sem, *]; done) | skip
   all_goals rfl
  intro k e lm hk0 hce hcl hinv
  simp only [keepE, and_true] at hce
  obtain ⟨c2, c15, c16⟩ := hce
  simp only [go_sem, *, Nat.reduceBEq, Nat.reduceEqDiff, reduceIte] at c2 c15 c16
  simp only [keepL, and_true] at hcl
  have d2 := hcl
  clear hcl
  simp only [go_sem, *, Nat.reduceBEq, Nat.reduceEqDiff, reduceIte] at d2
  obtain ⟨h17, hal⟩ := hinv
  by_cases hlt : k < p.length
  ·have hd0 : decide ((k : Int) < ((p.length : Nat) : Int)) = true := by first | (simpa using hlt; done) | (simp only [decide_eq_true_eq]; omega)
   have hv_0 := wrap_succ hlt mp
   obtain ⟨n, hn⟩ := get_some hlt
   have hix := fun H => ints_idx HP.out hn H
   have hnx := all_at hn hal
   have k102 := K1.out n
   have HNX := J1 hnx
   have HNN := J1 hn
   have HLT0 := J1 hlt
   clear hn hnx hal hlt
   cases hb : inB n (-1) (IntKind.i64.wrap (m.rooms.length - 1)) with
   | true =>
    rw [hb] at k102
    repeat' (first | (apply WO1.panic; exact rfl; (focus (intro cl rd; simp only [go_sem, *, Nat.reduceLT, Int.reduceEq, Int.reduceBEq, Int.reduceLE, Int.reduceLT, Nat.reduceAdd, Nat.reduceBEq, Nat.reduceEqDiff, reduceIte, Nat.reduceLeDiff, Nat.reduceMul, Nat.reduceSub, reduceCtorEq, efV, Fr.panicE]; with_reducible rfl)); simp only [tP, bP, eP, true_and]) | refine go1 ?_ | (apply U6; exact Z1; exact Z1; (exact k102 _); simp only [pM, pN, rR, rP]) | (refine go2 ?_ ?_ <;> intro hh) | fail)
    all_goals refine contH_mk J9 J7 J8 ?_
    all_goals refine ⟨?_, ?_⟩
    all_goals first | exact Z2 | skip
    all_goals exact HNX.out.trans hb
   | false =>
    rw [hb] at k102
    have hno : (p.all fun r => inB r (-1) (IntKind.i64.wrap (m.rooms.length - 1))) = false := by
     rw [List.all_eq_false]
     exact ⟨n, List.mem_of_getElem? HNN.out, by rw [hb]; simp⟩
    rw [hno]
    clear hno
    repeat' (first | (apply WO1.panic; exact rfl; (focus (intro cl rd; simp only [go_sem, *, Nat.reduceLT, Int.reduceEq, Int.reduceBEq, Int.reduceLE, Int.reduceLT, Nat.reduceAdd, Nat.reduceBEq, Nat.reduceEqDiff, reduceIte, Nat.reduceLeDiff, Nat.reduceMul, Nat.reduceSub, reduceCtorEq, efV, Fr.panicE]; with_reducible rfl)); simp only [tP, bP, eP, true_and]) | refine go1 ?_ | (apply U6; exact Z1; exact Z1; (exact k102 _); simp only [pM, pN, rR, rP]) | (refine go2 ?_ ?_ <;> intro hh) | fail)
    all_goals exact walkR_f
  ·have hd0 : decide ((k : Int) < ((p.length : Nat) : Int)) = false := by first | (simpa using hlt; done) | (simp only [decide_eq_false_iff_not]; omega)
   obtain rfl : k = p.length := by omega
   rw [List.take_length] at hal
   rw [hal]
   clear hal
   repeat' (first | refine goS ?_ | (refine go2 ?_ ?_ <;> intro hh) | fail)
   all_goals (simp only [eN])
   all_goals (simp only [resV_def (X := dX c) Tryz.func170, Tryz.results170]; first | exact J5 | refine J6 ?_)
   all_goals first | exact walkR_t | exact ⟨rfl, walkR_t⟩
end
noncomputable def cNS : Itr
 | 102 => some (pureFn sp102)
 | _ => none
theorem cNS_sound : Sound (dX cNS) := dX_sound (fun f g h => by
 unfold cNS at h
 split at h
 ·cases h; exact F102
 ·cases h)
def sp123 : List AV -> Option AV
 | [x, pa] => match hsV x, slV intC pa with
  | some m, some p => some (.bool (pathB m p))
  | _, _ => none
 | _ => none
theorem p123 : ∀ args v, sp123 args = some v -> v.pur = true := by
 intro args v h
 unfold sp123 at h
 split at h
 ·split at h
  ·cases h; rfl
  ·cases h
 ·cases h
set_option maxHeartbeats 2000000 in
theorem F123 : IntrFn Tryz.prog 123 (pureFn sp123) := by
 refine pure_fn (X := dX cNS) cNS_sound p123 ?_
 intro args v h
 unfold sp123 at h
 split at h
 ·rename_i xx pa
  split at h
  ·rename_i m p hm hp
   have h := Option.some.inj h
   subst h
   obtain ⟨ra, fa, oa, ha, rfl, hA⟩ := hs_parts' hm
   have o1 := sl_out hA.r
   have o2 := sl_out hA.f
   have o3 := sl_out hA.o
   have o4 := sl_out hA.h
   have op := sl_out hp
   have hcp := (slV_is hp).1.cells
   have htp := (slV_is hp).1.tup
   simp only [AV.cells] at hcp
   simp only [isTuple] at htp
   obtain ⟨mm, hmm⟩ : ∃ mm : Mp Blk, mm = (((Mp.nil : Mp Blk).set 0 (.var [.int .i64 m.hours, ra, fa, oa, ha])).set 1 (.var [pa])).set 2 (.var [.int .i64 0]) := ⟨_, rfl⟩
   have g0 : mm.get 0 = some (.var [.int .i64 m.hours, ra, fa, oa, ha]) := by rw [hmm]; simp
   have g1 : mm.get 1 = some (.var [pa]) := by rw [hmm]; simp
   have g2 : mm.get 2 = some (.var [.int .i64 0]) := by rw [hmm]; simp
   have hw := C170 (c := cNS) rfl rfl m ra fa oa ha pa p hA hp ⟨3, mm⟩
   unfold ClR walkR at hw
   obtain ⟨r, hcl, hr⟩ := hw
   clear hm hA hp
   cases hb : pathB m p with
   | true =>
    rw [hb] at hr
    simp only [if_true] at hr
    subst hr
    have h169 : Cl (dX cNS) 169 [.ptr 0 0, .ptr 1 0] ⟨3, mm⟩ (.ret (.tuple []) ⟨3, mm⟩ none) := by
     refine ClR.cl ?_
     clear hmm g2
     refine ClR.walk (c := _) rfl Tryz.func169 rfl (by kernel_rfl) rfl (fun e => by cases e) ?_
     try simp only [entryEnv, Nat.reduceAdd, List.nil_append, List.cons_append, emptyHp]
     repeat' (first | refine goS ?_ | (apply U6; exact Z1; exact Z1; (exact hcl); simp only [pM, pN, rR, rP]) | (refine go2 ?_ ?_ <;> intro hh) | fail)
     all_goals (first | simp only [eN, true_and] | skip)
     all_goals (simp only [resV_def (X := dX cNS) Tryz.func169, Tryz.results169]; first | exact J5 | refine J6 ?_)
     all_goals rfl
    rw [hmm] at h169
    have ht := C111n cNS rfl 169 [.ptr 0 0, .ptr 1 0] 2 _ 3 mm 0 (by rw [hmm]; exact h169) g2
    unfold ClR tryR at ht
    obtain ⟨r, hct, ⟨yn, ym⟩, rfl, hy1, hy2⟩ := ht
    have q0 : ((0 : Int) == 0) = true := rfl
    clear hcl h169 g0 g1 g2 hmm hy1 hy2
    refine ClR.walk (c := _) rfl Tryz.func123 rfl (by kernel_rfl) rfl isRet_fail ?_
    try simp only [entryEnv, Nat.reduceAdd, List.nil_append, List.cons_append, emptyHp]
    repeat' (first | refine goS ?_ | (apply U6; exact Z1; exact Z1; (exact hct); simp only [pM, pN, rR, rP]) | (refine go2 ?_ ?_ <;> intro hh) | fail)
    all_goals (simp only [resV_def (X := dX cNS) Tryz.func123, Tryz.results123]; first | exact J5 | refine J6 ?_)
    all_goals rfl
   | false =>
    rw [hb] at hr
    simp only [Bool.false_eq_true, if_false] at hr
    obtain ⟨x, rfl⟩ := hr
    have h169 : Cl (dX cNS) 169 [.ptr 0 0, .ptr 1 0] ⟨3, mm⟩ (.pan (.iface 205 (.agg [.int .i64 x])) ⟨3, mm⟩ none) := by
     refine ClR.cl ?_
     clear hmm g2
     refine ClR.walk (c := _) rfl Tryz.func169 rfl (by kernel_rfl) rfl (fun e => by cases e) ?_
     try simp only [entryEnv, Nat.reduceAdd, List.nil_append, List.cons_append, emptyHp]
     repeat' (first | (simp only [tP, bP, eP, true_and]) | refine go1 ?_ | (apply U6; exact Z1; exact Z1; (exact hcl); simp only [pM, pN, rR, rP]) | (refine go2 ?_ ?_ <;> intro hh) | fail)
     all_goals rfl
    rw [hmm] at h169
    have ht := C111w cNS rfl 169 [.ptr 0 0, .ptr 1 0] 2 _ 3 mm x 0 (by rw [hmm]; exact h169) g2
    unfold ClR tryR at ht
    obtain ⟨r, hct, ⟨yn, ym⟩, rfl, hy1, hy2⟩ := ht
    have q0 : ((2 : Int) == 0) = false := rfl
    clear hcl h169 g0 g1 g2 hmm hy1 hy2
    refine ClR.walk (c := _) rfl Tryz.func123 rfl (by kernel_rfl) rfl isRet_fail ?_
    try simp only [entryEnv, Nat.reduceAdd, List.nil_append, List.cons_append, emptyHp]
    repeat' (first | refine goS ?_ | (apply U6; exact Z1; exact Z1; (exact hct); simp only [pM, pN, rR, rP]) | (refine go2 ?_ ?_ <;> intro hh) | fail)
    all_goals (simp only [resV_def (X := dX cNS) Tryz.func123, Tryz.results123]; first | exact J5 | refine J6 ?_)
    all_goals rfl
  ·cases h
 ·cases h
theorem K123 {X : Ctx} (hX : X.intr 123 = some (pureFn sp123)) {m : Hs} {ra fa oa ha pa : AV} {p : List Int} (hm : HsA m ra fa oa ha) (hp : slV intC pa = some p) (h : Heap) : Cl X 123 [.agg [.int .i64 m.hours, ra, fa, oa, ha], pa] h (.ret (.bool (pathB m p)) h none) :=
 Cl.intr hX (by
  have h1 := hm.pur
  have h2 := hm.hs
  simp only [pureFn, AV.purL, h1, sl_pur hp, Bool.and_self, if_true, sp123, h2, hp])
end Go.AM
