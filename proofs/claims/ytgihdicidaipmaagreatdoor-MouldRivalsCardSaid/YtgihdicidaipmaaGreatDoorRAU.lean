/-
  A part of the proof: contracts of functions.
-/
import Derived.Test.YtgihdicidaipmaaGreatDoorRAT
import Derived.Test.YtgihdicidaipmaaGreatDoorRAR
set_option linter.unusedVariables false
set_option linter.unusedSimpArgs false
set_option linter.unusedSectionVars false
namespace Go.AM
open Go Go.Proofs
open Go.Mo7 (preT preP lexB bestW)
variable [Keep]
theorem loop_mem {ok : List Nat -> Bool} {N : Nat} : ∀ (d : Nat) (g x : List Nat), x ∈ loopW ok N d g ↔ ok x = true /\ ∃ t ∈ preT N d, x = g ++ t
 | 0, g, x => by unfold loopW preT; simp
 | d + 1, g, x => by
  rw [loopW_succ, List.mem_append, loop_mem d g x]
  unfold nodeW
  rw [List.mem_append, loop_mem d _ x]
  have e : preT N (d + 1) = ([] :: preT N d).map ((N - d - 1) :: ·) ++ preT N d := rfl
  have hs : N - (d + 1) = N - d - 1 := by omega
  rw [e, hs]
  constructor
  ·rintro ((h | ⟨h1, t, h2, h3⟩) | ⟨h1, t, h2, h3⟩)
   ·split at h
    ·rw [List.mem_singleton] at h
     subst h
     exact ⟨by assumption, [N - d - 1], List.mem_append_left _ (List.mem_map.2 ⟨[], by simp, rfl⟩), rfl⟩
    ·cases h
   ·exact ⟨h1, (N - d - 1) :: t, List.mem_append_left _ (List.mem_map.2 ⟨t, by simp [h2], rfl⟩), by rw [h3]; simp⟩
   ·exact ⟨h1, t, List.mem_append_right _ h2, h3⟩
  ·rintro ⟨h1, t, h2, h3⟩
   rcases List.mem_append.1 h2 with h2 | h2
   ·obtain ⟨u, h4, rfl⟩ := List.mem_map.1 h2
    rcases List.mem_cons.1 h4 with rfl | h4
    ·refine .inl (.inl ?_)
     rw [h3] at h1 ⊢
     rw [if_pos h1]
     simp
    ·exact .inl (.inr ⟨h1, u, h4, by rw [h3]; simp⟩)
   ·exact .inr ⟨h1, t, h2, h3⟩
theorem node_mem {ok : List Nat -> Bool} {N : Nat} (d : Nat) (x : List Nat) : x ∈ nodeW ok N d [] ↔ ok x = true /\ x ∈ preP N d := by
 unfold nodeW preP
 rw [List.mem_append, loop_mem, List.mem_cons]
 constructor
 ·rintro (h | ⟨h1, t, h2, h3⟩)
  ·split at h
   ·rw [List.mem_singleton] at h
    subst h
    exact ⟨by assumption, .inl rfl⟩
   ·cases h
  ·exact ⟨h1, .inr (by rw [h3]; simpa using h2)⟩
 ·rintro ⟨h1, h2 | h2⟩
  ·subst h2
   left
   rw [if_pos h1]
   simp
  ·exact .inr ⟨h1, x, h2, rfl⟩
theorem pre_gone {N : Nat} : ∀ (d : Nat) (t : List Nat), d <= N -> (t ∈ preP N d ↔ goneF N (intsN t) ((N : Int) - d - 1) = true)
 | 0, [], _ => by unfold preP intsN goneF; simp
 | 0, a :: r, _ => by
  unfold preP preT intsN
  rw [List.map_cons, goneF]
  have : inB (a : Int) ((N : Int) - (0 : Nat) - 1 + 1) ((N : Int) - 1) = false := by
   unfold inB
   rw [Bool.and_eq_false_iff, decide_eq_false_iff_not, decide_eq_false_iff_not]
   omega
  rw [this]
  simp
 | d + 1, [], _ => by unfold preP intsN goneF; simp
 | d + 1, a :: r, hd => by
  have i1 := pre_gone (N := N) d r (by omega)
  have i2 := pre_gone (N := N) d (a :: r) (by omega)
  have e : preP N (d + 1) = [] :: (([] :: preT N d).map ((N - d - 1) :: ·) ++ preT N d) := rfl
  have hm : a :: r ∈ preP N d ↔ a :: r ∈ preT N d := by unfold preP; simp
  have hr : r ∈ preP N d ↔ r ∈ [] :: preT N d := Iff.rfl
  rw [e, List.mem_cons, List.mem_append, List.mem_map]
  have e2 : intsN (a :: r) = (a : Int) :: intsN r := rfl
  rw [e2, goneF] at i2 ⊢
  rw [Bool.and_eq_true] at i2 ⊢
  have hb : ∀ lo : Int, inB (a : Int) lo ((N : Int) - 1) = true ↔ lo <= a /\ (a : Int) <= N - 1 := fun lo => by
   unfold inB
   rw [Bool.and_eq_true, decide_eq_true_eq, decide_eq_true_eq]
  rw [hb] at i2 ⊢
  constructor
  ·rintro (h | ⟨u, h1, h2⟩ | h)
   ·cases h
   ·injection h2 with h2 h3
    subst h3
    refine ⟨⟨by omega, by omega⟩, ?_⟩
    have := i1.1 (hr.2 h1)
    rw [show (a : Int) = (N : Int) - d - 1 by omega]
    exact this
   ·obtain ⟨⟨h1, h2⟩, h3⟩ := i2.1 (hm.2 h)
    exact ⟨⟨by omega, h2⟩, h3⟩
  ·rintro ⟨⟨h1, h2⟩, h3⟩
   by_cases hq : (a : Int) = (N : Int) - d - 1
   ·refine .inr (.inl ⟨r, hr.1 (i1.2 (by rw [<- hq]; exact h3)), ?_⟩)
    rw [show a = N - d - 1 by omega]
   ·exact .inr (.inr (hm.1 (i2.2 ⟨⟨by omega, h2⟩, h3⟩)))
theorem pre_all {N : Nat} (t : List Nat) : t ∈ preP N N ↔ goneB N (intsN t) = true := by
 rw [pre_gone N t (Nat.le_refl _)]
 unfold goneB
 rw [show (N : Int) - N - 1 = -1 by omega]
theorem gone_nats {n : Nat} : ∀ (l : List Int) (last : Int), -1 <= last -> goneF n l last = true -> ∃ g : List Nat, l = intsN g
 | [], _, _, _ => ⟨[], rfl⟩
 | x :: r, last, hl, h => by
  rw [goneF, Bool.and_eq_true] at h
  obtain ⟨h1, h2⟩ := h
  unfold inB at h1
  rw [Bool.and_eq_true, decide_eq_true_eq, decide_eq_true_eq] at h1
  obtain ⟨g, rfl⟩ := gone_nats r x (by omega) h2
  exact ⟨x.toNat :: g, by simp [intsN]; omega⟩
def bfrB : List Int -> List Int -> Bool
 | x :: l, y :: r => if x = y then bfrB l r else decide (x < y)
 | [], _ :: _ => true
 | _, _ => false
theorem cmp_bfr : ∀ l r : List Int, decide (cmpL l r < 0) = bfrB l r
 | [], [] => rfl
 | [], _ :: _ => rfl
 | _ :: _, [] => rfl
 | x :: l, y :: r => by
  unfold cmpL bfrB
  have ih := cmp_bfr l r
  unfold cmpI
  by_cases h1 : x < y
  ·have : x ≠ y := by omega
   simp [h1, this]
  ·by_cases h2 : x > y
   ·have : x ≠ y := by omega
    simp [h1, h2, this]
   ·have : x = y := by omega
    subst this
    simp [h1, ih]
theorem bfr_lex : ∀ a b : List Nat, bfrB (intsN a) (intsN b) = lexB a b
 | [], [] => rfl
 | [], _ :: _ => rfl
 | _ :: _, [] => rfl
 | a :: p, b :: q => by
  have ih := bfr_lex p q
  have e1 : intsN (a :: p) = (a : Int) :: intsN p := rfl
  have e2 : intsN (b :: q) = (b : Int) :: intsN q := rfl
  rw [e1, e2, bfrB, lexB, ih]
  by_cases h : a = b
  ·subst h; simp
  ·have : ¬ (a : Int) = (b : Int) := by omega
   rw [if_neg h, if_neg this]
   simp
theorem bet_same (a b : List Nat) : betB (intsN a) (intsN b) = Go.Mo7.betW a b := by
 unfold betB Go.Mo7.betW
 rw [cmp_bfr, bfr_lex]
 have e1 : (intsN a).length = a.length := by simp [intsN]
 have e2 : (intsN b).length = b.length := by simp [intsN]
 rw [e1, e2]
 congr 1
 ·simp
 ·congr 1
  rw [Bool.eq_iff_iff, beq_iff_eq, decide_eq_true_eq]
  omega
theorem best_same (o : List Nat) (l : List (List Nat)) : bestP o l = bestW o l := by
 unfold bestP bestW
 congr 1
 funext o x
 rw [bet_same]
theorem best_law {b : Bk} {sa : AV} (hbk : bookB b = true) (hm : MdsV sa b.moulds) :
  ∃ g, bestN (nodeW (okW b) b.moulds.length b.moulds.length []) = g /\ goneB b.moulds.length (intsN g) = true /\ g.length <= b.moulds.length /\ okW b g = true /\
   ∀ other, goneB b.moulds.length other = true -> clearB (leadF b) other b.moulds.length = true -> (g.length : Int) < other.length \/ ((other.length : Int) = g.length /\ bfrB other (intsN g) = false) := by
 refine ⟨_, rfl, ?_⟩
 have hin : upTo b.moulds.length b.moulds.length ∈ nodeW (okW b) b.moulds.length b.moulds.length [] := by
  have := node_full (ok := okW b) (N := b.moulds.length) b.moulds.length [] (by rw [nJ]; exact okW_full hbk b hm)
  rwa [nJ] at this
 generalize hL : nodeW (okW b) b.moulds.length b.moulds.length [] = L at *
 have hbe : bestN L = bestW (L.headD []) L := by unfold bestN; rw [best_same]
 have hmem : bestN L ∈ L := by
  rw [hbe]
  rcases Go.Mo7.bestW_in L (L.headD []) with h | h
  ·rw [h]
   cases L with
   | nil => cases hin
   | cons x l => simp
  ·exact h
 have hmin := (Go.Mo7.bestW_min L (L.headD [])).2
 rw [<- hbe] at hmin
 generalize bestN L = g at *
 have hq := hmem
 rw [<- hL] at hq
 obtain ⟨q1, q2⟩ := (node_mem _ _).1 hq
 refine ⟨(pre_all g).1 q2, ?_, q1, fun other ho hc => ?_⟩
 ·have := nodeW_sub _ _ _ _ _ hq
  simpa using this
 ·obtain ⟨o, rfl⟩ := gone_nats other (-1) (by omega) ho
  have h1 : o ∈ L := by
   rw [<- hL]
   exact (node_mem _ _).2 ⟨hc, (pre_all o).2 ho⟩
  have h2 := hmin o h1
  unfold Go.Mo7.betW at h2
  rw [Bool.or_eq_false_iff, decide_eq_false_iff_not] at h2
  obtain ⟨h3, h4⟩ := h2
  have e1 : (intsN o).length = o.length := by simp [intsN]
  rw [e1]
  by_cases h5 : o.length = g.length
  ·right
   rw [Bool.and_eq_false_iff] at h4
   refine ⟨by omega, ?_⟩
   rw [bfr_lex]
   rcases h4 with h4 | h4
   ·simp [h5] at h4
   ·exact h4
  ·left; omega
end Go.AM
