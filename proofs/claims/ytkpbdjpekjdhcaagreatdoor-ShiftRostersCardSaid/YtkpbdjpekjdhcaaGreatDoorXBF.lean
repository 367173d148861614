/-
  A part of the proof: contracts of functions.
-/
import Derived.Test.YtkpbdjpekjdhcaaGreatDoorXBD
import Derived.Test.YtkpbdjpekjdhcaaGreatDoorXBC
import Derived.Test.YtkpbdjpekjdhcaaGreatDoorXAD
set_option linter.unusedSectionVars false
set_option linter.unusedVariables false
set_option linter.unusedSimpArgs false
set_option maxRecDepth 100000
namespace Go.AM
open Go Go.Proofs
variable [Keep]
attribute [local irreducible] W WO WO1 WD WQ WT thenQ blockQ endR isRet retK Cl ClR
open Go.TX (Rm Fa Ha Hs)
attribute [local irreducible] hasB metF pathB houseB failsH highG lowG brV airS
def busyL (p : List Int) : Nat := p.countP fun r => decide (r >= 0)
theorem countP_next {α : Type} {q : α -> Bool} {l : List α} {k : Nat} {x : α} (h : l[k]? = some x) : (l.take (k + 1)).countP q = (l.take k).countP q + (if q x = true then 1 else 0) := by
 rw [take_next h, List.countP_append]
 simp [List.countP_cons]
def limAt (m : Hs) (i : Nat) : Int := match m.hands[i]? with | some x => x.limit | none => 0
def mostAt (m : Hs) (i : Nat) : Int := match m.hands[i]? with | some x => x.most | none => 0
def fairB (m : Hs) (g : List (List Int)) : Bool := (List.range g.length).all fun i => !decide ((busyL (g.getD i []) : Int) > mostAt m i)
def dan1 (m : Hs) (li : Int) (p : List Int) : Option Fl := (failsH m).find? fun f => decide (brV (highG m f) p > li)
def danL (m : Hs) (g : List (List Int)) : Nat -> Option (Nat × Fl)
 | 0 => none
 | k + 1 => match danL m g k with
  | some x => some x
  | none => match dan1 m (limAt m k) (g.getD k []) with
   | some f => some (k, f)
   | none => none
def keptR (m : Hs) (g : List (List Int)) : Bool := (danL m g g.length).isNone && fairB m g
section
variable {c : Itr}
set_option maxHeartbeats 4000000 in
theorem C101 (h101 : c 101 = none) (pa : AV) (p : List Int) (hp : slV intC pa = some p) (h : Heap) : Cl (dX c) 101 [pa] h (.ret (.int .i64 (busyL p)) h none) := by
 refine ClR.cl ?_
 have lp := sl_len hp
 have op := sl_out hp
 have mp := sl_max hp
 have HP := J1 hp
 clear hp
 refine ClR.walk (c := _) h101 Tryz.func101 rfl (by kernel_rfl) rfl (fun e => by cases e) ?_
 try simp only [entryEnv, Nat.reduceAdd, List.nil_append, List.cons_append, emptyHp]
 repeat' (first | refine goS ?_ | (refine go2 ?_ ?_ <;> intro hh) | fail)
 refine W.loopH (p.length) [0] [] (fun k e lm => ∃ s, e.get 4 = some (.int .i64 ↑k) /\ e.get 3 = some (.int .i64 ((s : Nat) : Int)) /\ (p.take k).countP (fun r => decide (r >= 0)) = s) ?_ ?_
 ·skip
  refine ⟨0, ?_, ?_, ?_⟩
  all_goals first | exact Z2 | (simp [go_sem, *]; done) | skip
  all_goals rfl
 intro k e lm hk0 hce hcl hinv
 simp only [keepE, and_true] at hce
 have c0 := hce
 clear hce
 simp only [go_sem, *, Nat.reduceBEq, Nat.reduceEqDiff, reduceIte] at c0
 clear hcl
 obtain ⟨s, h4, h3, hs⟩ := hinv
 by_cases hlt : k < p.length
 ·have hd0 : decide ((k : Int) < ((p.length : Nat) : Int)) = true := by first | (simpa using hlt; done) | (simp only [decide_eq_true_eq]; omega)
  have hv_0 := wrap_succ hlt mp
  obtain ⟨r, hr⟩ := get_some hlt
  have hix := fun H => ints_idx HP.out hr H
  have hnx := countP_next (q := fun r : Int => decide (r >= 0)) hr
  rw [hs] at hnx
  have hsl : s <= k := by rw [<- hs]; exact Nat.le_trans List.countP_le_length (by rw [List.length_take]; omega)
  have hw := wrap_succ (k := s) (m := p.length) (by omega) mp
  have HNX := J1 hnx
  have HLT0 := J1 hlt
  clear hr hnx hs hsl hlt
  cases e : decide (r >= 0) with
  | true =>
   repeat' (first | refine goS ?_ | (refine go2 ?_ ?_ <;> intro hh) | fail)
   all_goals refine contH_mk J9 J7 J8 ?_
   all_goals refine ⟨s + 1, ?_, ?_, ?_⟩
   all_goals first | exact Z2 | skip
   all_goals (first | (rw [HNX.out]; simp only [e, if_true]; done) | exact Z2)
  | false =>
   repeat' (first | refine goS ?_ | (refine go2 ?_ ?_ <;> intro hh) | fail)
   all_goals refine contH_mk J9 J7 J8 ?_
   all_goals refine ⟨s, ?_, ?_, ?_⟩
   all_goals first | exact Z2 | skip
   all_goals (first | (rw [HNX.out]; simp only [e]; rfl) | exact Z2)
 ·have hd0 : decide ((k : Int) < ((p.length : Nat) : Int)) = false := by first | (simpa using hlt; done) | (simp only [decide_eq_false_iff_not]; omega)
  obtain rfl : k = p.length := by omega
  rw [List.take_length] at hs
  unfold busyL
  rw [hs]
  clear hs
  repeat' (first | refine goS ?_ | (refine go2 ?_ ?_ <;> intro hh) | fail)
  all_goals (simp only [resV_def (X := dX c) Tryz.func101, Tryz.results101]; first | exact J5 | refine J6 ?_)
  all_goals rfl
end
end Go.AM
