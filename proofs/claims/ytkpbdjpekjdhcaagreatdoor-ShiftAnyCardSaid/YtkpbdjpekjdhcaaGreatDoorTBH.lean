/-
  A part of the proof: contracts of functions.
-/
import Derived.Test.YtkpbdjpekjdhcaaGreatDoorTBF
import Derived.Test.YtkpbdjpekjdhcaaGreatDoorTBG
set_option linter.unusedSectionVars false
set_option linter.unusedVariables false
set_option linter.unusedSimpArgs false
set_option maxRecDepth 100000
namespace Go.AM
open Go Go.Proofs
variable [Keep]
attribute [local irreducible] W WO WO1 WD WQ WT thenQ blockQ endR isRet retK Cl ClR
open Go.TX (Rm Fa Ha Hs)
def dutyGo : Int → List Int → Bool
 | _, [] => true
 | left, n :: l => inB n 0 left && dutyGo (w64 (left - n)) l
def dutyR (m : Hs) (d : List Int) : Bool := dutyGo m.hours d && ((d.length : Int) == (m.rooms.length : Int))
def dutyP (m : Hs) (d : List Int) : Bool := ((d.length : Int) == (m.rooms.length : Int)) && !(d.any fun n => !inB n 0 m.hours) && decide (sumW d ≤ m.hours)
structure DutyOk (m : Hs) (d : List Int) : Prop where
 len : d.length = m.rooms.length
 val : ∀ n ∈ d, 0 ≤ n ∧ n ≤ 4
theorem duty_ok {m : Hs} (ho : HOk m) {d : List Int} (h : dutyP m d = true) : DutyOk m d := by
 have hh := ho.hours
 unfold dutyP at h
 rw [any_not2] at h
 simp only [Bool.and_eq_true, List.all_eq_true, inB_iff, beq_iff_eq] at h
 exact ⟨by omega, fun n hn => by have := h.1.2 n hn; omega⟩
def doesB (p d : List Int) : Bool := (List.range d.length).all fun r => !(((p.count (r : Int) : Nat) : Int) != d.getD r 0)
theorem does_at {p d : List Int} (h : doesB p d = true) {r : Nat} (hr : r < d.length) : ((p.count (r : Int) : Nat) : Int) = d.getD r 0 := by
 unfold doesB at h
 rw [List.all_eq_true] at h
 have := h r (List.mem_range.2 hr)
 simpa using this
theorem paths_filter {rl : Nat} {su : List Int → Int → Bool} {P : List Int → Bool} (h : ∀ (q l : List Int) (r : Int), -1 ≤ r → r < rl → P (q ++ r :: l) = true → su q r = true) : ∀ d q, (pathsL su rl d q).filter P = (pathsL (fun _ _ => true) rl d q).filter P
 | 0, q => rfl
 | d + 1, q => by
  have key : ∀ L : List Nat, (∀ i ∈ L, i < rl + 1) → (L.flatMap fun i : Nat => if su q ((i : Int) - 1) = true then pathsL su rl d (q ++ [(i : Int) - 1]) else []).filter P = (L.flatMap fun i : Nat => if (fun _ _ => true : List Int → Int → Bool) q ((i : Int) - 1) = true then pathsL (fun _ _ => true) rl d (q ++ [(i : Int) - 1]) else []).filter P := by
   intro L
   induction L with
   | nil => intro _; rfl
   | cons i L ih =>
    intro hL
    rw [List.flatMap_cons, List.flatMap_cons, List.filter_append, List.filter_append, ih fun j hj => hL j (by simp [hj])]
    congr 1
    have hi := hL i (by simp)
    cases hs : su q ((i : Int) - 1) with
    | true =>
     rw [if_pos rfl, if_pos rfl]
     exact paths_filter h d _
    | false =>
     rw [if_neg (by simp), if_pos rfl, paths_all]
     symm
     rw [List.filter_nil, List.filter_eq_nil_iff]
     intro p hp
     obtain ⟨t, _, rfl⟩ := List.mem_map.1 hp
     intro hP
     rw [List.append_assoc] at hP
     have := h q t ((i : Int) - 1) (by omega) (by omega) hP
     rw [hs] at this
     cases this
  rw [pathsL, pathsL]
  exact key _ fun i hi => List.mem_range.1 hi
def suitD (d : List Int) (q : List Int) (r : Int) : Bool := (r == -1) || decide (((q.count r : Nat) : Int) < d.getD r.toNat 0)
theorem does_paths {rl n : Nat} {d : List Int} (hd : d.length = rl) : (pathsL (suitD d) rl n []).filter (fun p => doesB p d) = (allP rl n).filter (fun p => doesB p d) := by
 rw [paths_filter (rl := rl) (su := suitD d) (P := fun p => doesB p d) (fun q l r h1 h2 hP => ?_), paths_top]
 unfold suitD
 by_cases e : r = -1
 ·rw [e]; rfl
 ·obtain ⟨rn, rfl⟩ : ∃ rn : Nat, r = rn := ⟨r.toNat, by omega⟩
  have := does_at hP (r := rn) (by omega)
  rw [List.count_append, List.count_cons] at this
  simp only [beq_self_eq_true, if_true] at this
  rw [Bool.or_eq_true, decide_eq_true_eq, Int.toNat_natCast, ← this]
  right
  omega
def bestF (bt : Int → Int → Bool) (f : List Int → Int) (o : Option (List Int)) (p : List Int) : Option (List Int) := match o with
 | none => some p
 | some q => if bt (f p) (f q) = true then some p else some q
def btW (w : Bool) (a b : Int) : Bool := if w = true then decide (a > b) else decide (a < b)
def mostP (m : Hs) (p : List Int) : Int := (airS m p).2
def ordL (m : Hs) (d : List Int) : List (List Int) := (allP m.rooms.length m.hours.toNat).filter fun p => doesB p d
def ordP (m : Hs) (d : List Int) (w : Bool) : Option (List Int) := (ordL m d).foldl (bestF (btW w) (mostP m)) none
def ordE (m : Hs) (o : Option (List Int)) : List AV := match o with
 | none => [.nilslice, .int .i64 0]
 | some p => [slN (intsE p), .int .i64 (mostP m p)]
theorem foldl_filter {α β : Type} (q : α → Bool) (f : β → α → β) : ∀ (l : List α) (s : β), (l.filter q).foldl f s = l.foldl (fun s x => if q x = true then f s x else s) s
 | [], s => rfl
 | a :: l, s => by
  rw [List.foldl_cons, List.filter_cons]
  cases h : q a with
  | true => rw [if_pos rfl, List.foldl_cons, if_pos rfl]; exact foldl_filter q f l _
  | false => rw [if_neg (by simp), if_neg (by simp)]; exact foldl_filter q f l _
attribute [local irreducible] houseB pathB airS failsH hasB allP
section
variable {c : Itr}
set_option maxHeartbeats 4000000 in
theorem C65 (h65 : c 65 = none) (pa da : AV) (p d : List Int) (hp : slV intC pa = some p) (hd : slV intC da = some d) (h : Heap) : Cl (dX c) 65 [pa, da] h (.ret (.bool (doesB p d)) h none) := by
 refine ClR.cl ?_
 have lp := sl_len hp
 have op := sl_out hp
 have mp := sl_max hp
 have ld := sl_len hd
 have od := sl_out hd
 have md := sl_max hd
 have HP := Lib.hid hp
 have HD := Lib.hid hd
 unfold doesB
 clear hp hd
 refine ClR.walk (c := _) h65 Tryz.func65 rfl (by kernel_rfl) rfl (fun e => by cases e) ?_
 try simp only [entryEnv, Nat.reduceAdd, List.nil_append, List.cons_append, emptyHp]
 repeat' (first | refine goS ?_ | refine go2 (fun hh => ?_) (fun hh => ?_) | fail)
 refine W.loopH (d.length) [0, 1] [] (fun k e lm => e.get 5 = some (.int .i64 ↑k) ∧ (List.range k).all (fun r => !(((p.count (r : Int) : Nat) : Int) != d.getD r 0)) = true) ?_ ?_
 ·skip
  refine ⟨?_, ?_⟩
  all_goals first | exact Z2 | (simp [go_sem, *]; done) | skip
  all_goals rfl
 intro k e lm hk0 hce hcl hinv
 simp only [keepE, and_true] at hce
 obtain ⟨c0, c1⟩ := hce
 simp only [go_sem, *, Nat.reduceLT, Int.reduceEq, Int.reduceBEq, Int.reduceLE, Int.reduceLT, Nat.reduceAdd, Nat.reduceBEq, Nat.reduceEqDiff, reduceIte, Nat.reduceLeDiff, Nat.reduceMul, Nat.reduceSub, reduceCtorEq] at c0 c1
 clear hcl
 obtain ⟨h5, hal⟩ := hinv
 by_cases hlt : k < d.length
 ·have hd0 : decide ((k : Int) < ((d.length : Nat) : Int)) = true := by first | (simpa using hlt; done) | (simp only [decide_eq_true_eq]; omega)
  have hv_0 := wrap_succ hlt md
  obtain ⟨n, hn⟩ := get_some hlt
  have hix := fun H => ints_idx HD.out hn H
  have hgn : d.getD k 0 = n := by simp [List.getD, hn]
  have hnx : (List.range (k + 1)).all (fun r => !(((p.count (r : Int) : Nat) : Int) != d.getD r 0)) = !(((p.count (k : Int) : Nat) : Int) != n) := by rw [List.range_succ, List.all_append, hal, List.all_cons, hgn]; simp
  have hno : (((p.count (k : Int) : Nat) : Int) != n) = true → (List.range d.length).all (fun r => !(((p.count (r : Int) : Nat) : Int) != d.getD r 0)) = false := fun e => by
   rw [List.all_eq_false]
   exact ⟨k, List.mem_range.2 hlt, by rw [hgn, e]; simp⟩
  have HNX := Lib.hid hnx
  have HNO := Lib.hid hno
  have HLT0 := Lib.hid hlt
  clear hn hgn hnx hno hal hlt
  repeat' (first | refine goS ?_ | refine go2 (fun hh => ?_) (fun hh => ?_) | fail)
  refine W.loopH (p.length) [0, 1, 5] [] (fun j e1 lm1 => ∃ s, e1.get 7 = some (.int .i64 ↑j) ∧ e1.get 6 = some (.int .i64 ((s : Nat) : Int)) ∧ (p.take j).count (k : Int) = s) ?_ ?_
  ·skip
   refine ⟨0, ?_, ?_, ?_⟩
   all_goals first | exact Z2 | (simp [go_sem, *]; done) | skip
   all_goals rfl
  intro j e1 lm1 hk1 hce hcl hinv
  simp only [keepE, and_true] at hce
  obtain ⟨c0, c1, c5⟩ := hce
  simp only [go_sem, *, Nat.reduceLT, Int.reduceEq, Int.reduceBEq, Int.reduceLE, Int.reduceLT, Nat.reduceAdd, Nat.reduceBEq, Nat.reduceEqDiff, reduceIte, Nat.reduceLeDiff, Nat.reduceMul, Nat.reduceSub, reduceCtorEq] at c0 c1 c5
  clear hcl
  obtain ⟨s, h7, h6, hs⟩ := hinv
  by_cases hjt : j < p.length
  ·have hd1 : decide ((j : Int) < ((p.length : Nat) : Int)) = true := by first | (simpa using hjt; done) | (simp only [decide_eq_true_eq]; omega)
   have hv_1 := wrap_succ hjt mp
   obtain ⟨r, hr⟩ := get_some hjt
   have hixp := fun H => ints_idx HP.out hr H
   have hnx : (p.take (j + 1)).count (k : Int) = s + (if (r == (k : Int)) = true then 1 else 0) := by
    rw [take_next hr, List.count_append, hs, List.count_singleton]
   have hsl : s ≤ j := by
    rw [← hs]
    exact Nat.le_trans List.count_le_length (by rw [List.length_take]; omega)
   have hw := wrap_succ (k := s) (m := p.length) (by omega) mp
   have HNX2 := Lib.hid hnx
   have HLT1 := Lib.hid hjt
   clear hr hnx hs hsl hjt
   cases e : (r == (k : Int)) with
   | true =>
    repeat' (first | refine goS ?_ | refine go2 (fun hh => ?_) (fun hh => ?_) | fail)
    all_goals refine contH_mk (by first | assumption | exact HLT1.out | exact HLT0.out) (by simp only [keepE, and_true, and_self, go_sem, *, Nat.reduceLT, Int.reduceEq, Int.reduceBEq, Int.reduceLE, Int.reduceLT, Nat.reduceAdd, Nat.reduceBEq, Nat.reduceEqDiff, reduceIte, Nat.reduceLeDiff, Nat.reduceMul, Nat.reduceSub, reduceCtorEq]) (by simp only [keepL, and_true, and_self, go_sem, *, Nat.reduceLT, Int.reduceEq, Int.reduceBEq, Int.reduceLE, Int.reduceLT, Nat.reduceAdd, Nat.reduceBEq, Nat.reduceEqDiff, reduceIte, Nat.reduceLeDiff, Nat.reduceMul, Nat.reduceSub, reduceCtorEq]) ?_
    all_goals refine ⟨s + 1, ?_, ?_, ?_⟩
    all_goals first | exact Z2 | skip
    all_goals (first | (rw [HNX2.out]; simp only [e, if_true]; done) | exact Z2)
   | false =>
    repeat' (first | refine goS ?_ | refine go2 (fun hh => ?_) (fun hh => ?_) | fail)
    all_goals refine contH_mk (by first | assumption | exact HLT1.out | exact HLT0.out) (by simp only [keepE, and_true, and_self, go_sem, *, Nat.reduceLT, Int.reduceEq, Int.reduceBEq, Int.reduceLE, Int.reduceLT, Nat.reduceAdd, Nat.reduceBEq, Nat.reduceEqDiff, reduceIte, Nat.reduceLeDiff, Nat.reduceMul, Nat.reduceSub, reduceCtorEq]) (by simp only [keepL, and_true, and_self, go_sem, *, Nat.reduceLT, Int.reduceEq, Int.reduceBEq, Int.reduceLE, Int.reduceLT, Nat.reduceAdd, Nat.reduceBEq, Nat.reduceEqDiff, reduceIte, Nat.reduceLeDiff, Nat.reduceMul, Nat.reduceSub, reduceCtorEq]) ?_
    all_goals refine ⟨s, ?_, ?_, ?_⟩
    all_goals first | exact Z2 | skip
    all_goals (first | (rw [HNX2.out]; simp only [e]; rfl) | exact Z2)
  ·have hd1 : decide ((j : Int) < ((p.length : Nat) : Int)) = false := by first | (simpa using hjt; done) | (simp only [decide_eq_false_iff_not]; omega)
   obtain rfl : j = p.length := by omega
   rw [List.take_length] at hs
   rw [hs] at HNX HNO
   clear hs
   cases e : ((s : Int) != n) with
   | true =>
    rw [HNO.out e]
    repeat' (first | refine goS ?_ | refine go2 (fun hh => ?_) (fun hh => ?_) | fail)
    all_goals (simp only [resV_def (X := dX c) Tryz.func65, Tryz.results65]; first | exact J5 | refine J6 ?_)
    all_goals rfl
   | false =>
    repeat' (first | refine goS ?_ | refine go2 (fun hh => ?_) (fun hh => ?_) | fail)
    all_goals refine contH_mk (by first | assumption | exact HLT0.out | exact HLT0.out) (by simp only [keepE, and_true, and_self, go_sem, *, Nat.reduceLT, Int.reduceEq, Int.reduceBEq, Int.reduceLE, Int.reduceLT, Nat.reduceAdd, Nat.reduceBEq, Nat.reduceEqDiff, reduceIte, Nat.reduceLeDiff, Nat.reduceMul, Nat.reduceSub, reduceCtorEq]) (by simp only [keepL, and_true, and_self, go_sem, *, Nat.reduceLT, Int.reduceEq, Int.reduceBEq, Int.reduceLE, Int.reduceLT, Nat.reduceAdd, Nat.reduceBEq, Nat.reduceEqDiff, reduceIte, Nat.reduceLeDiff, Nat.reduceMul, Nat.reduceSub, reduceCtorEq]) ?_
    all_goals refine ⟨?_, ?_⟩
    all_goals first | exact Z2 | skip
    all_goals (rw [HNX.out, e]; rfl)
 ·have hd0 : decide ((k : Int) < ((d.length : Nat) : Int)) = false := by first | (simpa using hlt; done) | (simp only [decide_eq_false_iff_not]; omega)
  obtain rfl : k = d.length := by omega
  rw [hal]
  clear hal
  repeat' (first | refine goS ?_ | refine go2 (fun hh => ?_) (fun hh => ?_) | fail)
  all_goals (simp only [resV_def (X := dX c) Tryz.func65, Tryz.results65]; first | exact J5 | refine J6 ?_)
  all_goals rfl
end
end Go.AM
namespace Go.AM
open Go Go.Proofs
variable [Keep]
attribute [local irreducible] W WO WO1 WD WQ WT thenQ blockQ endR isRet retK Cl ClR
open Go.TX (Rm Fa Ha Hs)
def lexD : List Int → List Int → Option Bool
 | a :: p, b :: q => if (a != b) = true then some (decide (a < b)) else lexD p q
 | _, _ => none
def befG : List (List Int) → List (List Int) → Bool
 | a :: ar, b :: br => (lexD a b).getD (befG ar br)
 | _, _ => false
theorem lexD_self : ∀ p : List Int, lexD p p = none
 | [] => rfl
 | a :: p => by rw [lexD, if_neg (by simp)]; exact lexD_self p
theorem befG_one (p q : List Int) : befG [p] [q] = (lexD p q == some true) := by
 rw [befG]
 cases lexD p q with
 | none => rfl
 | some r => cases r <;> rfl
theorem allB_sort (rl : Nat) : ∀ k, (allB rl k).Pairwise fun a b => lexD b a ≠ some true
 | 0 => by
  rw [allB]
  exact List.pairwise_singleton _ _
 | k + 1 => by
  have ih := allB_sort rl k
  rw [allB, List.pairwise_flatMap]
  refine ⟨fun i _ => ?_, ?_⟩
  ·rw [List.pairwise_map]
   refine ih.imp fun {a b} h => ?_
   rw [lexD, if_neg (by simp)]
   exact h
  ·refine (List.pairwise_lt_range (n := rl + 1)).imp fun {i j} hij x hx y hy => ?_
   obtain ⟨u, _, rfl⟩ := List.mem_map.1 hx
   obtain ⟨v, _, rfl⟩ := List.mem_map.1 hy
   rw [lexD, if_pos (by simp only [bne_iff_ne, ne_eq]; omega)]
   simp only [ne_eq, Option.some.injEq, decide_eq_true_eq]
   omega
theorem allP_sort (rl k : Nat) : (allP rl k).Pairwise fun a b => lexD b a ≠ some true := allB_all rl k ▸ allB_sort rl k
theorem best_first (w : Bool) (f : List Int → Int) : ∀ (l : List (List Int)) (o q : List Int), l.foldl (bestF (btW w) f) (some o) = some q →
  (q = o ∧ ∀ x ∈ l, btW w (f x) (f o) = false) ∨ ∃ l1 l2, l = l1 ++ q :: l2 ∧ btW w (f q) (f o) = true ∧ (∀ x ∈ l1, btW w (f q) (f x) = true) ∧ ∀ x ∈ l2, btW w (f x) (f q) = false
 | [], o, q, h => by
  simp only [List.foldl_nil, Option.some.injEq] at h
  exact .inl ⟨h.symm, fun x hx => by cases hx⟩
 | a :: l, o, q, h => by
  rw [List.foldl_cons] at h
  have e : bestF (btW w) f (some o) a = if btW w (f a) (f o) = true then some a else some o := rfl
  rw [e] at h
  cases hb : btW w (f a) (f o) with
  | true =>
   rw [hb, if_pos rfl] at h
   rcases best_first w f l a q h with ⟨rfl, h1⟩ | ⟨l1, l2, rfl, h1, h2, h3⟩
   ·exact .inr ⟨[], l, rfl, hb, fun x hx => (by cases hx), h1⟩
   ·refine .inr ⟨a :: l1, l2, rfl, ?_, fun x hx => ?_, h3⟩
    ·cases w <;> simp only [btW, Bool.false_eq_true, if_false, if_true, decide_eq_true_eq] at * <;> omega
    ·rcases List.mem_cons.1 hx with rfl | hx
     ·exact h1
     ·exact h2 x hx
  | false =>
   rw [hb, if_neg (by simp)] at h
   rcases best_first w f l o q h with ⟨rfl, h1⟩ | ⟨l1, l2, rfl, h1, h2, h3⟩
   ·refine .inl ⟨rfl, fun x hx => ?_⟩
    rcases List.mem_cons.1 hx with rfl | hx
    ·exact hb
    ·exact h1 x hx
   ·refine .inr ⟨a :: l1, l2, rfl, h1, fun x hx => ?_, h3⟩
    rcases List.mem_cons.1 hx with rfl | hx
    ·cases w <;> simp only [btW, Bool.false_eq_true, if_false, if_true, decide_eq_true_eq, decide_eq_false_iff_not] at * <;> omega
    ·exact h2 x hx
theorem best_top (w : Bool) (f : List Int → Int) {l : List (List Int)} (hl : l ≠ []) : ∃ q l1 l2, l.foldl (bestF (btW w) f) none = some q ∧ l = l1 ++ q :: l2 ∧ (∀ x ∈ l1, btW w (f q) (f x) = true) ∧ ∀ x ∈ l2, btW w (f x) (f q) = false := by
 cases l with
 | nil => exact absurd rfl hl
 | cons a l =>
  rw [List.foldl_cons]
  have e : bestF (btW w) f none a = some a := rfl
  rw [e]
  have hs : ∃ q, l.foldl (bestF (btW w) f) (some a) = some q := by
   clear hl e
   induction l generalizing a with
   | nil => exact ⟨a, rfl⟩
   | cons b l ih =>
    rw [List.foldl_cons]
    have e : bestF (btW w) f (some a) b = if btW w (f b) (f a) = true then some b else some a := rfl
    rw [e]
    split
    ·exact ih b
    ·exact ih a
  obtain ⟨q, hq⟩ := hs
  refine ⟨q, ?_⟩
  rcases best_first w f l a q hq with ⟨rfl, h1⟩ | ⟨l1, l2, rfl, h1, h2, h3⟩
  ·exact ⟨[], l, hq, rfl, fun x hx => (by cases hx), h1⟩
  ·refine ⟨a :: l1, l2, hq, rfl, fun x hx => ?_, h3⟩
   rcases List.mem_cons.1 hx with rfl | hx
   ·exact h1
   ·exact h2 x hx
theorem pathM {m : Hs} (ho : HOk m) {p : List Int} (h : pathB m p = true) : p ∈ allP m.rooms.length m.hours.toNat := by
 have hh := ho.hours
 have hr := ho.rooms
 unfold pathB at h
 rw [Bool.and_eq_true, List.all_eq_true] at h
 obtain ⟨h1, h2⟩ := h
 have hl : p.length = m.hours.toNat := by
  simp only [beq_iff_eq] at h1
  omega
 rw [← hl, ← allB_all]
 have h3 : ∀ x ∈ p, -1 ≤ x ∧ x < (m.rooms.length : Int) := fun x hx => by
  have := h2 x hx
  rw [w64_small (by omega) (by omega), inB_iff] at this
  omega
 clear h1 h2 hl
 generalize m.rooms.length = rl at *
 induction p with
 | nil => simp [allB]
 | cons a p ih =>
  have ha := h3 a (by simp)
  have := ih fun x hx => h3 x (by simp [hx])
  simp only [List.length_cons, allB, List.mem_flatMap, List.mem_range, List.mem_map]
  exact ⟨(a + 1).toNat, by omega, p, this, by congr 1; omega⟩
def dutC (R : Nat) (p : List Int) : List Int := (List.range R).map fun r : Nat => ((p.count (r : Int) : Nat) : Int)
theorem dutC_len (R : Nat) (p : List Int) : (dutC R p).length = R := by unfold dutC; simp
theorem dutC_get {R r : Nat} (p : List Int) (h : r < R) : (dutC R p)[r]? = some ((p.count (r : Int) : Nat) : Int) := by
 unfold dutC
 rw [List.getElem?_map, List.getElem?_range h]
 rfl
theorem does_dut (R : Nat) (p : List Int) : doesB p (dutC R p) = true := by
 unfold doesB
 rw [List.all_eq_true]
 intro r hr
 rw [dutC_len, List.mem_range] at hr
 simp [List.getD, dutC_get p hr]
theorem dut_sum (p : List Int) : ∀ R, ((dutC R p).foldl (fun a b => a + b) 0) ≤ (p.length : Int) ∧ 0 ≤ ((dutC R p).foldl (fun a b => a + b) 0) := by
 have key : ∀ R, ((dutC R p).foldl (fun a b => a + b) 0) = (((p.filter fun x => decide (0 ≤ x ∧ x < (R : Int))).length : Nat) : Int) := by
  intro R
  induction R with
  | zero =>
   have : (p.filter fun x => decide (0 ≤ x ∧ x < ((0 : Nat) : Int))) = [] := by
    rw [List.filter_eq_nil_iff]
    intro x _
    simp only [decide_eq_true_eq]
    omega
   rw [this]
   rfl
  | succ R ih =>
   have e : dutC (R + 1) p = dutC R p ++ [((p.count (R : Int) : Nat) : Int)] := by
    unfold dutC
    rw [List.range_succ, List.map_append]
    rfl
   rw [e, List.foldl_append, ih]
   simp only [List.foldl_cons, List.foldl_nil]
   clear e ih
   induction p with
   | nil => rfl
   | cons a p ih =>
    rw [List.count_cons, List.filter_cons, List.filter_cons]
    by_cases e1 : a = (R : Int)
    ·subst e1
     have h1 : (decide (0 ≤ (R : Int) ∧ (R : Int) < (R : Int))) = false := by simp
     have h2 : (decide (0 ≤ (R : Int) ∧ (R : Int) < ((R + 1 : Nat) : Int))) = true := by simp only [decide_eq_true_eq]; omega
     rw [h1, h2]
     simp only [beq_self_eq_true, if_true, Bool.false_eq_true, if_false, List.length_cons]
     omega
    ·have h0 : (a == (R : Int)) = false := by simpa using e1
     have h3 : decide (0 ≤ a ∧ a < ((R + 1 : Nat) : Int)) = decide (0 ≤ a ∧ a < (R : Int)) := by
      rw [decide_eq_decide]
      omega
     rw [h0, h3]
     simp only [Bool.false_eq_true, if_false, Nat.add_zero]
     split
     ·simp only [List.length_cons]; omega
     ·omega
 intro R
 rw [key R]
 have := List.length_filter_le (fun x => decide (0 ≤ x ∧ x < (R : Int))) p
 omega
theorem sum_small : ∀ (l : List Int) (s : Int), (∀ x ∈ l, 0 ≤ x ∧ x ≤ 1000) → 0 ≤ s → s + 1000 * l.length ≤ 1000000 → l.foldl (fun a b => w64 (a + b)) s = l.foldl (fun a b => a + b) s
 | [], _, _, _, _ => rfl
 | a :: l, s, h, h0, hb => by
  have ha := h a (by simp)
  simp only [List.length_cons] at hb
  rw [List.foldl_cons, List.foldl_cons, w64_small (n := s + a) (by omega) (by omega)]
  exact sum_small l (s + a) (fun x hx => h x (by simp [hx])) (by omega) (by omega)
theorem dut_duty {m : Hs} (ho : HOk m) {p : List Int} (h : p.length = m.hours.toNat) : dutyP m (dutC m.rooms.length p) = true := by
 have hh := ho.hours
 have hr := ho.rooms
 have hv : ∀ x ∈ dutC m.rooms.length p, 0 ≤ x ∧ x ≤ (p.length : Int) := fun x hx => by
  unfold dutC at hx
  obtain ⟨r, _, rfl⟩ := List.mem_map.1 hx
  have := List.count_le_length (a := (r : Int)) (l := p)
  omega
 have hs := dut_sum p m.rooms.length
 have hw : sumW (dutC m.rooms.length p) = (dutC m.rooms.length p).foldl (fun a b => a + b) 0 := sum_small _ 0 (fun x hx => by have := hv x hx; omega) (by omega) (by rw [dutC_len]; omega)
 unfold dutyP
 rw [any_not2, hw, dutC_len]
 simp only [beq_self_eq_true, Bool.true_and, Bool.and_eq_true, List.all_eq_true, decide_eq_true_eq]
 refine ⟨fun x hx => inB_iff.2 ?_, by omega⟩
 have := hv x hx
 omega
theorem any_law {m : Hs} (ho : HOk m) {p : List Int} (h : pathB m p = true) (w : Bool) : ∃ q, ordP m (dutC m.rooms.length p) w = some q ∧ pathB m q = true ∧ doesB q (dutC m.rooms.length p) = true ∧ btW w (mostP m p) (mostP m q) = false ∧ (mostP m p = mostP m q → befG [p] [q] = false) := by
 have hh := ho.hours
 have hr := ho.rooms
 have hm := pathM ho h
 have hin : p ∈ ordL m (dutC m.rooms.length p) := by
  unfold ordL
  rw [List.mem_filter]
  exact ⟨hm, does_dut _ _⟩
 obtain ⟨q, l1, l2, e1, e2, e3, e4⟩ := best_top w (mostP m) (List.ne_nil_of_mem hin)
 have hq : q ∈ ordL m (dutC m.rooms.length p) := by rw [e2]; simp
 have hqd : q ∈ allP m.rooms.length m.hours.toNat ∧ doesB q (dutC m.rooms.length p) = true := by
  unfold ordL at hq
  rwa [List.mem_filter] at hq
 obtain ⟨q1, q2⟩ := allP_mem hqd.1
 have hqp : pathB m q = true := by
  unfold pathB
  rw [q1, Bool.and_eq_true, List.all_eq_true]
  refine ⟨by simp only [beq_iff_eq]; omega, fun x hx => ?_⟩
  rw [w64_small (by omega) (by omega), inB_iff]
  have := q2 x hx
  omega
 have hsort : (ordL m (dutC m.rooms.length p)).Pairwise fun a b => lexD b a ≠ some true := (allP_sort _ _).filter _
 rw [e2, List.pairwise_append, List.pairwise_cons] at hsort
 refine ⟨q, e1, hqp, hqd.2, ?_, fun he => ?_⟩
 ·rw [e2] at hin
  rcases List.mem_append.1 hin with g | g
  ·have := e3 p g
   cases w <;> simp only [btW, Bool.false_eq_true, if_false, if_true, decide_eq_true_eq, decide_eq_false_iff_not] at * <;> omega
  ·rcases List.mem_cons.1 g with g | g
   ·rw [g]; cases w <;> simp [btW]
   ·exact e4 p g
 ·rw [befG_one]
  rw [e2] at hin
  rcases List.mem_append.1 hin with g | g
  ·have := e3 p g
   rw [he] at this
   cases w <;> simp [btW] at this
  ·rcases List.mem_cons.1 g with g | g
   ·rw [g, lexD_self]; rfl
   ·have := hsort.2.1.1 p g
    simpa using this
end Go.AM
