/-
  A part of the proof: contracts of functions.
-/
import Derived.Test.YtkpbdjpekjdhcaaGreatDoorRBN
import Derived.Test.YtkpbdjpekjdhcaaGreatDoorRAL
import Derived.Test.YtkpbdjpekjdhcaaGreatDoorRAM
import Derived.Test.YtkpbdjpekjdhcaaGreatDoorRBC
set_option linter.unusedSectionVars false
set_option linter.unusedVariables false
set_option linter.unusedSimpArgs false
set_option maxRecDepth 100000
namespace Go.AM
open Go Go.Proofs
variable [Keep]
attribute [local irreducible] W WO WO1 WD WQ WT thenQ blockQ endR isRet retK Cl ClR
open Go.TX (Rm Fa Ha Hs)
attribute [local irreducible] roundQ RdR
section
variable {σ : Type} {I D : σ → Heap → Prop} {own : Heap → Nat → Prop} (ok : OwnOk I own) {s s4 : σ} {h1 hq h' : Heap} {L1 : Nat} {bl : Blk}
include ok
theorem rnd_in (i : I s h1) (hn : hq.next = h1.next) (hg : ∀ j, j ≠ L1 → hq.get j = h1.get j) (fL : ¬ own h1 L1) (nr : ∀ z r, h1.get L1 ≠ some (.rw z r)) : I s hq ∧ ∀ id, own hq id → own h1 id :=
 ok.lp s h1 hq L1 i fL nr hn hg
theorem back_put (i : I s4 h') (fL : ¬ own h' L1) (nr : ∀ z r, h'.get L1 ≠ some (.rw z r)) : I s4 (h'.put L1 bl) ∧ ∀ id, own (h'.put L1 bl) id → own h' id :=
 ok.lp s4 h' _ L1 i fL nr rfl fun id hid => by
  rw [Heap.get_put, if_neg (fun e => hid e.symm)]
theorem back_go (i : I s h1) (hn : hq.next = h1.next) (hg : ∀ j, j ≠ L1 → hq.get j = h1.get j) (hL : h1.get L1 = some bl) (fL : ¬ own h1 L1) (lL : L1 < h1.next) (nr : ∀ z r, h1.get L1 ≠ some (.rw z r)) (nq : ∀ z r, hq.get L1 ≠ some (.rw z r)) (i4 : I s4 h') (kr : Rel own hq h') : I s4 (h'.put L1 bl) ∧ Rel own h1 (h'.put L1 bl) := by
 obtain ⟨_, b2⟩ := rnd_in ok i hn hg fL nr
 have k := kr.2 L1 (by rw [hn]; exact lL) (fun ho => fL (b2 _ ho))
 obtain ⟨c1, c2⟩ := back_put ok (bl := bl) i4 k.2 (fun z r e => nq z r (k.1.symm.trans e))
 refine ⟨c1, ?_, fun id hid ho => ?_⟩
 ·show h1.next ≤ h'.next
  rw [← hn]; exact kr.1
 ·have q := kr.2 id (by rw [hn]; exact hid) (fun k => ho (b2 _ k))
  refine ⟨?_, fun k => q.2 (c2 _ k)⟩
  rw [Heap.get_put]
  split
  ·rename_i e; subst e; exact hL.symm
  ·rename_i e; rw [q.1]; exact hg id (fun e' => e e'.symm)
end
def extP (rl : Nat) (p : List Int) : List (List Int) := (List.range (rl + 1)).map fun i : Nat => p ++ [(i : Int) - 1]
def allP (rl : Nat) : Nat → List (List Int)
 | 0 => [[]]
 | k + 1 => (allP rl k).flatMap (extP rl)
def allB (rl : Nat) : Nat → List (List Int)
 | 0 => [[]]
 | k + 1 => (List.range (rl + 1)).flatMap fun i : Nat => (allB rl k).map fun q => ((i : Int) - 1) :: q
theorem flatMap_map' {α β γ : Type} (f : α → β) (g : β → List γ) : ∀ l : List α, (l.map f).flatMap g = l.flatMap fun x => g (f x)
 | [] => rfl
 | a :: l => by simp only [List.map_cons, List.flatMap_cons, flatMap_map' f g l]
theorem flatMap_flatMap' {α β γ : Type} (f : α → List β) (g : β → List γ) : ∀ l : List α, (l.flatMap f).flatMap g = l.flatMap fun x => (f x).flatMap g
 | [] => rfl
 | a :: l => by simp only [List.flatMap_cons, List.flatMap_append, flatMap_flatMap' f g l]
theorem map_flatMap' {α β γ : Type} (f : α → List β) (g : β → γ) : ∀ l : List α, (l.flatMap f).map g = l.flatMap fun x => (f x).map g
 | [] => rfl
 | a :: l => by simp only [List.flatMap_cons, List.map_append, map_flatMap' f g l]
theorem flat_single {α β : Type} (f : α → β) : ∀ l : List α, (l.flatMap fun x => [f x]) = l.map f
 | [] => rfl
 | a :: l => by simp only [List.flatMap_cons, List.map_cons, flat_single f l]; rfl
theorem allB_all (rl : Nat) : ∀ k, allB rl k = allP rl k
 | 0 => rfl
 | k + 1 => by
  have ih := allB_all rl k
  have key : ∀ k, allB rl (k + 1) = (allB rl k).flatMap (extP rl) := by
   intro k
   induction k with
   | zero =>
    simp [allB, extP]
    exact flat_single _ _
   | succ k ih2 =>
    rw [allB]
    conv => lhs; rw [ih2]
    conv => rhs; rw [allB]
    rw [flatMap_flatMap']
    congr 1
    funext i
    rw [map_flatMap', flatMap_map']
    congr 1
    funext q
    unfold extP
    simp only [List.map_map]
    rfl
  rw [key k, ih]
  rfl
theorem paths_all (rl : Nat) : ∀ d p, pathsL (fun _ _ => true) rl d p = (allP rl d).map (p ++ ·)
 | 0, p => by simp [pathsL, allP]
 | d + 1, p => by
  rw [← allB_all, pathsL, allB, map_flatMap']
  congr 1
  funext i
  rw [if_pos rfl, paths_all rl d, List.map_map, allB_all]
  congr 1
  funext q
  simp
theorem paths_top (rl n : Nat) : pathsL (fun _ _ => true) rl n [] = allP rl n := by
 rw [paths_all]
 simp
theorem allP_mem {rl : Nat} : ∀ {k : Nat} {p : List Int}, p ∈ allP rl k → p.length = k ∧ PLt rl p
 | 0, p, h => by
  simp [allP] at h
  subst h
  exact ⟨rfl, fun x hx => by simp at hx⟩
 | k + 1, p, h => by
  rw [allP, List.mem_flatMap] at h
  obtain ⟨q, h1, h2⟩ := h
  obtain ⟨h3, h4⟩ := allP_mem h1
  unfold extP at h2
  obtain ⟨i, h5, rfl⟩ := List.mem_map.1 h2
  exact ⟨by simp [h3], h4.app (List.mem_range.1 h5)⟩
def AllV (h : Heap) (v : AV) (k : Nat) (ls : List (List Int)) : Prop := (k = 0 ∧ v = .vslice [.nilslice] ∧ ls = [[]]) ∨ Blt2 h v 1 (ls.map intsE)
theorem AllV.keep {h h' : Heap} {v : AV} {k : Nat} {ls : List (List Int)} (q : AllV h v k ls) (x : HExt h h') : AllV h' v k ls := by
 rcases q with q | q
 ·exact .inl q
 ·exact .inr (q.keep x)
theorem AllV.out {h : Heap} {v : AV} {k : Nat} {ls : List (List Int)} (q : AllV h v k ls) : outV (some v) = some v ∧ lenS v = some ls.length := by
 rcases q with ⟨_, rfl, rfl⟩ | q
 ·exact ⟨rfl, rfl⟩
 ·have := q.len
  rw [List.length_map] at this
  exact ⟨q.out, this⟩
theorem AllV.read {h : Heap} {v : AV} {k : Nat} {ls : List (List Int)} (q : AllV h v k ls) {j : Nat} {p : List Int} (hj : ls[j]? = some p) : ∃ b, (h.elems b = some (intsE p) ∧ outV (some b) = some b ∧ b.cells = [b] ∧ isTuple b = false) ∧
  ((∀ H, indexAddrV Tryz.prog H 36 v (.int .i64 (j : Int)) = some (.vptr [b])) ∨ ∃ id el, h.get id = some (.rw 1 el) ∧ el[j]? = some b ∧ indexAddrV Tryz.prog h 36 v (.int .i64 (j : Int)) = some (.eptr id 1 j 0)) := by
 rcases q with ⟨_, rfl, rfl⟩ | ⟨el, hb, hl, hi⟩
 ·cases j with
  | succ j => simp at hj
  | zero =>
   simp at hj
   subst hj
   refine ⟨.nilslice, ⟨rfl, rfl, rfl, rfl⟩, .inl fun H => ?_⟩
   have : isSl (.vslice [.nilslice]) [AV.nilslice] := .inr rfl
   exact this.idx (hp := H) (x := .nilslice) (m := 1) Tryz.underlying36 ty_lay24 (k := 0) rfl rfl
 ·obtain ⟨hj1, hj2⟩ := List.getElem?_eq_some_iff.1 hj
  rw [List.length_map] at hl
  have h1 := hi j (by omega)
  have e1 : (ls.map intsE).getD j [] = intsE p := by simp [List.getD, hj]
  rw [e1] at h1
  rcases hb with ⟨rfl, rfl⟩ | ⟨id, rfl, h2, h3, h4⟩
  ·simp at hl; omega
  ·obtain ⟨b, hbj⟩ := get_some (l := el) (k := j) (by omega)
   have e2 : el.getD j .junk = b := by simp [List.getD, hbj]
   rw [e2] at h1
   refine ⟨b, ?_, .inr ⟨id, el, h2, hbj, ?_⟩⟩
   ·rcases h1 with ⟨rfl, h5⟩ | ⟨id', rfl, h5, h6, h7, h8⟩
    ·rw [h5]; exact ⟨rfl, rfl, rfl, rfl⟩
    ·exact ⟨by simp [Heap.elems, h5], rfl, rfl, rfl⟩
   ·have hix : idxV (.int .i64 (j : Int)) el.length = some j := by
     simp only [idxV]
     rw [if_pos (by constructor <;> omega)]
     simp
    simp only [indexAddrV, Tryz.underlying36, ty_lay24, hix, h2, if_true, Nat.zero_add]
attribute [local irreducible] houseB allP
section
variable {c : Itr}
theorem C87 (hc : c 87 = none) (n : Int) (ra fa oa ha sv : AV) (h1 : outV (some ra) = some ra) (h2 : outV (some fa) = some fa) (h3 : outV (some oa) = some oa) (h4 : outV (some ha) = some ha) (h5 : outV (some sv) = some sv) (hcs : sv.cells = [sv]) (htu : isTuple sv = false) (hn : Nat) (hmm : Mp Blk) :
  Cl (dX c) 87 [.agg [.int .i64 n, ra, fa, oa, ha], sv] ⟨hn, hmm⟩ (.ret (.func (.func 138) [] [.ptr hn 0, .ptr (hn + 1) 0]) ⟨hn + 1 + 1, (hmm.set hn (.var [.int .i64 n, ra, fa, oa, ha])).set (hn + 1) (.var [sv])⟩ none) := by
 refine ClR.cl ?_
 simp only [AV.cells] at hcs
 simp only [isTuple] at htu
 refine ClR.walk (c := _) hc Tryz.func87 rfl (by kernel_rfl) rfl (fun e => by cases e) ?_
 try simp only [entryEnv, Nat.reduceAdd, List.nil_append, List.cons_append, emptyHp]
 repeat' (first | refine goS ?_ | refine go2 (fun hh => ?_) (fun hh => ?_) | fail)
 all_goals (simp only [resV_def (X := dX c) Tryz.func87, Tryz.results87]; first | exact J5 | refine J6 ?_)
 all_goals rfl
theorem C103 (hc : c 103 = none) (a : AV) (r : Int) (ha : outV (some a) = some a) (h : Heap) : Cl (dX c) 103 [a, .int .i64 r] h (.ret (.bool true) h none) := by
 refine ClR.cl ?_
 refine ClR.walk (c := _) hc Tryz.func103 rfl (by kernel_rfl) rfl (fun e => by cases e) ?_
 try simp only [entryEnv, Nat.reduceAdd, List.nil_append, List.cons_append, emptyHp]
 repeat' (first | refine goS ?_ | refine go2 (fun hh => ?_) (fun hh => ?_) | fail)
 all_goals (simp only [resV_def (X := dX c) Tryz.func103, Tryz.results103]; first | exact J5 | refine J6 ?_)
 all_goals rfl
end
end Go.AM
