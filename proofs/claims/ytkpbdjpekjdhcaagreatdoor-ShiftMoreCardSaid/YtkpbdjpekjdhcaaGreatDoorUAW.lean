/-
  A part of the proof: contracts of functions.
-/
import Derived.Test.YtkpbdjpekjdhcaaGreatDoorUAK
import Derived.Test.YtkpbdjpekjdhcaaGreatDoorUAJ
import Derived.Test.YtkpbdjpekjdhcaaGreatDoorUAO
import Derived.Test.YtkpbdjpekjdhcaaGreatDoorUAH
set_option linter.unusedSectionVars false
set_option linter.unusedVariables false
set_option linter.unusedSimpArgs false
set_option maxRecDepth 100000
namespace Go.AM
open Go Go.Proofs
variable [Keep]
attribute [local irreducible] W WO WO1 WD WQ WT thenQ blockQ endR isRet retK Cl ClR
open Go.TX (Rm Fa Ha Hs)
attribute [local irreducible] runsB madeR madeF drawnP sumW
def rowFit (m : Hs) (g : List (List Int)) (i : Nat) : Bool := (g.getD i []).all fun n => inB n (m.rooms.getD i rm0).lo (m.rooms.getD i rm0).hi
def fitsB (m : Hs) (g : List (List Int)) : Bool := (List.range m.rooms.length).all (rowFit m g)
section
variable {c : Itr}
end
end Go.AM
namespace Go.AM
open Go
variable [Keep]
theorem HExt.pair {h h' : Heap} (x : HExt h h') : h.next ≤ h'.next ∧ ∀ id, id < h.next → h'.get id = h.get id := x
def InR (h : Heap) (v e : AV) (sz : Nat) (l : List AV) : Prop := (e = .nilslice ∧ l = []) ∨ ∃ id, e = .row id 0 l.length ∧ h.get id = some (.rw sz l) ∧ id < h.next ∧ l ≠ [] ∧ ∀ off n, v ≠ .row id off n
def Blt2 (h : Heap) (v : AV) (sz : Nat) (ls : List (List AV)) : Prop := ∃ el, Blt h v 1 el ∧ el.length = ls.length ∧ ∀ i, i < el.length → InR h v (el.getD i .junk) sz (ls.getD i [])
section
variable {h h' : Heap} {v v' e : AV} {sz : Nat} {l : List AV} {ls : List (List AV)}
theorem InR.cells (q : InR h v e sz l) : e.cells = [e] := by rcases q with ⟨rfl, _⟩ | ⟨id, rfl, _⟩ <;> rfl
theorem InR.keep (q : InR h v e sz l) (x : HExt h h') : InR h' v e sz l := by
 rcases q with q | ⟨id, h1, h2, h3, h4, h5⟩
 ·exact .inl q
 ·exact .inr ⟨id, h1, (x.2 id h3).trans h2, Nat.lt_of_lt_of_le h3 x.1, h4, h5⟩
theorem Blt.ext (q : Blt h v sz l) (x : HExt h h') : Blt h' v sz l := by
 rcases q with q | ⟨id, h1, h2, h3, h4⟩
 ·exact .inl q
 ·exact .inr ⟨id, h1, (x.2 id h3).trans h2, Nat.lt_of_lt_of_le h3 x.1, h4⟩
theorem Blt2.nil : Blt2 h .nilslice sz [] := ⟨[], .nil, rfl, fun i hi => by simp at hi⟩
theorem Blt2.keep (q : Blt2 h v sz ls) (x : HExt h h') : Blt2 h' v sz ls := by
 obtain ⟨el, b, hl, hi⟩ := q
 exact ⟨el, b.ext x, hl, fun i hh => (hi i hh).keep x⟩
theorem Blt2.out (q : Blt2 h v sz ls) : outV (some v) = some v := by obtain ⟨el, b, _⟩ := q; exact b.out
theorem Blt2.len (q : Blt2 h v sz ls) : lenS v = some ls.length := by obtain ⟨el, b, hl, _⟩ := q; rw [b.len, hl]
theorem InR.of {b : Nat} {h0 : Heap} (q : BltN b h e sz l) (hv : ∀ id off n, v = .row id off n → id < b) : InR h v e sz l := by
 rcases q with q | ⟨id, h1, h2, h3, h4, h5⟩
 ·exact .inl q
 ·exact .inr ⟨id, h1, h2, h4, h5, fun off n ev => by have := hv id off n ev; omega⟩
theorem Blt2.below (q : Blt2 h v sz ls) : ∀ id off n, v = .row id off n → id < h.next := by
 obtain ⟨el, b, _⟩ := q
 intro id off n e
 rcases b with ⟨rfl, _⟩ | ⟨j, rfl, _, hj, _⟩
 ·cases e
 ·cases e; exact hj
theorem Blt2.app {el : List AV} {n : Nat} (q : ∀ i, i < el.length → InR h v (el.getD i .junk) sz (ls.getD i [])) (hl : el.length = ls.length) (k : Keeps h h' v) (b' : Blt h' v' 1 (el ++ [e])) (hv : v' = .row h.next 0 n) (i : InR h v e sz l) : Blt2 h' v' sz (ls ++ [l]) := by
 have key : ∀ {e : AV} {l : List AV}, InR h v e sz l → InR h' v' e sz l := by
  intro e l q
  rcases q with q | ⟨id, h1, h2, h3, h4, h5⟩
  ·exact .inl q
  ·refine .inr ⟨id, h1, (k.2 id h3 h5).trans h2, Nat.lt_of_lt_of_le h3 k.1, h4, fun off n ev => ?_⟩
   rw [hv] at ev
   cases ev
   exact absurd h3 (Nat.lt_irrefl _)
 refine ⟨el ++ [e], b', by simp [hl], fun j hj => ?_⟩
 rw [List.length_append] at hj
 by_cases hlt : j < el.length
 ·have e1 : (el ++ [e]).getD j .junk = el.getD j .junk := by simp [List.getD, List.getElem?_append_left hlt]
  have e2 : (ls ++ [l]).getD j [] = ls.getD j [] := by simp [List.getD, List.getElem?_append_left (hl ▸ hlt)]
  rw [e1, e2]
  exact key (q j hlt)
 ·simp at hj
  have hje : j = el.length := by omega
  subst hje
  have e1 : (el ++ [e]).getD el.length .junk = e := by simp [List.getD]
  have e2 : (ls ++ [l]).getD el.length [] = l := by rw [hl]; simp [List.getD]
  rw [e1, e2]
  exact key i
theorem InR.frz (q : InR h v e sz l) (hs : ∀ e ∈ l, e.cells.length = sz) (hf : ∀ e ∈ l, ∀ x ∈ e.cells, x.flat = true ∧ x.one = true) : Frz h e (slN l) := by
 rcases q with ⟨rfl, rfl⟩ | ⟨id, rfl, h1, h2, h3, h4⟩
 ·exact .flat rfl
 ·cases l with
  | nil => exact absurd rfl h3
  | cons a r => exact .flats h1 h3 hs hf
theorem Blt2.frz (q : Blt2 h v sz ls) (hs : ∀ l ∈ ls, ∀ e ∈ l, e.cells.length = sz) (hf : ∀ l ∈ ls, ∀ e ∈ l, ∀ x ∈ e.cells, x.flat = true ∧ x.one = true) : Frz h v (slN (ls.map slN)) := by
 obtain ⟨el, b, hl, hi⟩ := q
 refine b.frz2D hl (fun i hlt => ?_) (fun e he => ?_)
 ·have hm : ls.getD i [] ∈ ls := by rw [List.getD, List.getElem?_eq_getElem (hl ▸ hlt)]; exact List.getElem_mem _
  exact (hi i hlt).frz (hs _ hm) (hf _ hm)
 ·obtain ⟨i, hlt, rfl⟩ := List.getElem_of_mem he
  have := hi i hlt
  rw [List.getD, List.getElem?_eq_getElem hlt] at this
  exact this.cells
end
end Go.AM
