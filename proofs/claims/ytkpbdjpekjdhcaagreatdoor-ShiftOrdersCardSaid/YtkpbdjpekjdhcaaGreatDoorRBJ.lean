/-
  A part of the proof: contracts of functions.
-/
import Derived.Test.YtkpbdjpekjdhcaaGreatDoorRBH
import Derived.Test.YtkpbdjpekjdhcaaGreatDoorRBI
set_option linter.unusedSectionVars false
set_option linter.unusedVariables false
set_option linter.unusedSimpArgs false
set_option maxRecDepth 100000
namespace Go.AM
open Go Go.Proofs
variable [Keep]
attribute [local irreducible] W WO WO1 WD WQ WT thenQ blockQ endR isRet retK Cl ClR
open Go.TX (Rm Fa Ha Hs)
def dutyGo : Int → List Int → Bool
 | _, [] => true
 | left, n :: l => inB n 0 left && dutyGo (w64 (left - n)) l
def dutyR (m : Hs) (d : List Int) : Bool := dutyGo m.hours d && ((d.length : Int) == (m.rooms.length : Int))
def dutyP (m : Hs) (d : List Int) : Bool := ((d.length : Int) == (m.rooms.length : Int)) && !(d.any fun n => !inB n 0 m.hours) && decide (sumW d ≤ m.hours)
theorem duty_go : ∀ (d : List Int) (left s : Int), 0 ≤ left → 0 ≤ s → s + left ≤ 4 → d.length ≤ 100 → (dutyGo left d = true ↔ (∀ n ∈ d, 0 ≤ n ∧ n ≤ s + left) ∧ d.foldl (fun a b => w64 (a + b)) s ≤ s + left)
 | [], left, s, h1, h2, h3, h4 => by simp [dutyGo]; omega
 | n :: d, left, s, h1, h2, h3, h4 => by
  simp only [List.length_cons] at h4
  rw [dutyGo, Bool.and_eq_true, inB_iff, List.foldl_cons]
  constructor
  ·rintro ⟨a1, a2⟩
   rw [w64_small (n := left - n) (by omega) (by omega)] at a2
   have ih := duty_go d (left - n) (s + n) (by omega) (by omega) (by omega) (by omega)
   obtain ⟨b1, b2⟩ := ih.1 a2
   rw [w64_small (n := s + n) (by omega) (by omega)]
   refine ⟨fun x hx => ?_, by omega⟩
   rcases List.mem_cons.1 hx with rfl | hx
   ·omega
   ·have := b1 x hx; omega
  ·rintro ⟨a1, a2⟩
   have hn := a1 n (by simp)
   rw [w64_small (n := s + n) (by omega) (by omega)] at a2
   have hge : ∀ (l : List Int) (t : Int), (∀ x ∈ l, 0 ≤ x ∧ x ≤ 4) → 0 ≤ t → t + 4 * l.length ≤ 100000 → t ≤ l.foldl (fun a b => w64 (a + b)) t := by
    intro l
    induction l with
    | nil => intro t _ _ _; exact Int.le_refl _
    | cons y l ih =>
     intro t hl ht hb
     have hy := hl y (by simp)
     simp only [List.length_cons] at hb
     rw [List.foldl_cons, w64_small (n := t + y) (by omega) (by omega)]
     have := ih (t + y) (fun x hx => hl x (by simp [hx])) (by omega) (by omega)
     omega
   have h5 := hge d (s + n) (fun x hx => by have := a1 x (by simp [hx]); omega) (by omega) (by omega)
   have hle : n ≤ left := by omega
   refine ⟨⟨hn.1, hle⟩, ?_⟩
   rw [w64_small (n := left - n) (by omega) (by omega)]
   have ih := duty_go d (left - n) (s + n) (by omega) (by omega) (by omega) (by omega)
   refine ih.2 ⟨fun x hx => ?_, by omega⟩
   have := a1 x (by simp [hx])
   omega
theorem duty_same {m : Hs} (ho : HOk m) (d : List Int) : dutyP m d = dutyR m d := by
 have hh := ho.hours
 have hr := ho.rooms
 unfold dutyP dutyR
 cases hl : ((d.length : Int) == (m.rooms.length : Int)) with
 | false => simp
 | true =>
  have hlen : (d.length : Int) = m.rooms.length := by simpa using hl
  have h := duty_go d m.hours 0 (by omega) (by omega) (by omega) (by omega)
  rw [Bool.true_and, Bool.and_true, Bool.eq_iff_iff, Bool.and_eq_true, h]
  have e : sumW d = d.foldl (fun a b => w64 (a + b)) 0 := rfl
  rw [e, decide_eq_true_eq, any_not2]
  simp only [List.all_eq_true, inB_iff, Int.zero_add]
structure DutyOk (m : Hs) (d : List Int) : Prop where
 len : d.length = m.rooms.length
 val : ∀ n ∈ d, 0 ≤ n ∧ n ≤ 4
theorem duty_ok {m : Hs} (ho : HOk m) {d : List Int} (h : dutyP m d = true) : DutyOk m d := by
 have hh := ho.hours
 unfold dutyP at h
 rw [any_not2] at h
 simp only [Bool.and_eq_true, List.all_eq_true, inB_iff, beq_iff_eq] at h
 exact ⟨by omega, fun n hn => by have := h.1.2 n hn; omega⟩
def doesB (p d : List Int) : Bool := (List.range d.length).all fun r => !(((p.count (r : Int) : Nat) : Int) != d.getD r 0)
theorem does_at {p d : List Int} (h : doesB p d = true) {r : Nat} (hr : r < d.length) : ((p.count (r : Int) : Nat) : Int) = d.getD r 0 := by
 unfold doesB at h
 rw [List.all_eq_true] at h
 have := h r (List.mem_range.2 hr)
 simpa using this
theorem paths_filter {rl : Nat} {su : List Int → Int → Bool} {P : List Int → Bool} (h : ∀ (q l : List Int) (r : Int), -1 ≤ r → r < rl → P (q ++ r :: l) = true → su q r = true) : ∀ d q, (pathsL su rl d q).filter P = (pathsL (fun _ _ => true) rl d q).filter P
 | 0, q => rfl
 | d + 1, q => by
  have key : ∀ L : List Nat, (∀ i ∈ L, i < rl + 1) → (L.flatMap fun i : Nat => if su q ((i : Int) - 1) = true then pathsL su rl d (q ++ [(i : Int) - 1]) else []).filter P = (L.flatMap fun i : Nat => if (fun _ _ => true : List Int → Int → Bool) q ((i : Int) - 1) = true then pathsL (fun _ _ => true) rl d (q ++ [(i : Int) - 1]) else []).filter P := by
   intro L
   induction L with
   | nil => intro _; rfl
   | cons i L ih =>
    intro hL
    rw [List.flatMap_cons, List.flatMap_cons, List.filter_append, List.filter_append, ih fun j hj => hL j (by simp [hj])]
    congr 1
    have hi := hL i (by simp)
    cases hs : su q ((i : Int) - 1) with
    | true =>
     rw [if_pos rfl, if_pos rfl]
     exact paths_filter h d _
    | false =>
     rw [if_neg (by simp), if_pos rfl, paths_all]
     symm
     rw [List.filter_nil, List.filter_eq_nil_iff]
     intro p hp
     obtain ⟨t, _, rfl⟩ := List.mem_map.1 hp
     intro hP
     rw [List.append_assoc] at hP
     have := h q t ((i : Int) - 1) (by omega) (by omega) hP
     rw [hs] at this
     cases this
  rw [pathsL, pathsL]
  exact key _ fun i hi => List.mem_range.1 hi
def suitD (d : List Int) (q : List Int) (r : Int) : Bool := (r == -1) || decide (((q.count r : Nat) : Int) < d.getD r.toNat 0)
theorem does_paths {rl n : Nat} {d : List Int} (hd : d.length = rl) : (pathsL (suitD d) rl n []).filter (fun p => doesB p d) = (allP rl n).filter (fun p => doesB p d) := by
 rw [paths_filter (rl := rl) (su := suitD d) (P := fun p => doesB p d) (fun q l r h1 h2 hP => ?_), paths_top]
 unfold suitD
 by_cases e : r = -1
 ·rw [e]; rfl
 ·obtain ⟨rn, rfl⟩ : ∃ rn : Nat, r = rn := ⟨r.toNat, by omega⟩
  have := does_at hP (r := rn) (by omega)
  rw [List.count_append, List.count_cons] at this
  simp only [beq_self_eq_true, if_true] at this
  rw [Bool.or_eq_true, decide_eq_true_eq, Int.toNat_natCast, ← this]
  right
  omega
def bestF (bt : Int → Int → Bool) (f : List Int → Int) (o : Option (List Int)) (p : List Int) : Option (List Int) := match o with
 | none => some p
 | some q => if bt (f p) (f q) = true then some p else some q
def btW (w : Bool) (a b : Int) : Bool := if w = true then decide (a > b) else decide (a < b)
def mostP (m : Hs) (p : List Int) : Int := (airS m p).2
def ordL (m : Hs) (d : List Int) : List (List Int) := (allP m.rooms.length m.hours.toNat).filter fun p => doesB p d
def ordP (m : Hs) (d : List Int) (w : Bool) : Option (List Int) := (ordL m d).foldl (bestF (btW w) (mostP m)) none
def ordE (m : Hs) (o : Option (List Int)) : List AV := match o with
 | none => [.nilslice, .int .i64 0]
 | some p => [slN (intsE p), .int .i64 (mostP m p)]
theorem best_mem {bt : Int → Int → Bool} {f : List Int → Int} : ∀ (l : List (List Int)) (o : Option (List Int)) (p : List Int), l.foldl (bestF bt f) o = some p → p ∈ l ∨ o = some p
 | [], o, p, h => .inr h
 | q :: l, o, p, h => by
  rw [List.foldl_cons] at h
  rcases best_mem l _ p h with h1 | h1
  ·exact .inl (by simp [h1])
  ·unfold bestF at h1
   split at h1
   ·cases h1; exact .inl (by simp)
   ·split at h1
    ·cases h1; exact .inl (by simp)
    ·exact .inr h1
theorem foldl_filter {α β : Type} (q : α → Bool) (f : β → α → β) : ∀ (l : List α) (s : β), (l.filter q).foldl f s = l.foldl (fun s x => if q x = true then f s x else s) s
 | [], s => rfl
 | a :: l, s => by
  rw [List.foldl_cons, List.filter_cons]
  cases h : q a with
  | true => rw [if_pos rfl, List.foldl_cons, if_pos rfl]; exact foldl_filter q f l _
  | false => rw [if_neg (by simp), if_neg (by simp)]; exact foldl_filter q f l _
def ordS (m : Hs) (d : List Int) (w : Bool) (o : Option (List Int)) (p : List Int) : Option (List Int) := if doesB p d = true then bestF (btW w) (mostP m) o p else o
theorem ord_fold (m : Hs) (d : List Int) (w : Bool) : ordP m d w = (allP m.rooms.length m.hours.toNat).foldl (ordS m d w) none := by
 unfold ordP ordL
 rw [foldl_filter]
 rfl
attribute [local irreducible] houseB pathB airS failsH hasB allP
section
variable {c : Itr}
set_option maxHeartbeats 4000000 in
theorem C65 (h65 : c 65 = none) (pa da : AV) (p d : List Int) (hp : slV intC pa = some p) (hd : slV intC da = some d) (h : Heap) : Cl (dX c) 65 [pa, da] h (.ret (.bool (doesB p d)) h none) := by
 refine ClR.cl ?_
 have lp := sl_len hp
 have op := sl_out hp
 have mp := sl_max hp
 have ld := sl_len hd
 have od := sl_out hd
 have md := sl_max hd
 have HP := Lib.hid hp
 have HD := Lib.hid hd
 unfold doesB
 clear hp hd
 refine ClR.walk (c := _) h65 Tryz.func65 rfl (by kernel_rfl) rfl (fun e => by cases e) ?_
 try simp only [entryEnv, Nat.reduceAdd, List.nil_append, List.cons_append, emptyHp]
 repeat' (first | refine goS ?_ | refine go2 (fun hh => ?_) (fun hh => ?_) | fail)
 refine W.loopH (d.length) [0, 1] [] (fun k e lm => e.get 5 = some (.int .i64 ↑k) ∧ (List.range k).all (fun r => !(((p.count (r : Int) : Nat) : Int) != d.getD r 0)) = true) ?_ ?_
 ·skip
  refine ⟨?_, ?_⟩
  all_goals first | exact Z2 | (simp [go_sem, *]; done) | skip
  all_goals rfl
 intro k e lm hk0 hce hcl hinv
 simp only [keepE, and_true] at hce
 obtain ⟨c0, c1⟩ := hce
 simp only [go_sem, *, Nat.reduceLT, Int.reduceEq, Int.reduceBEq, Int.reduceLE, Int.reduceLT, Nat.reduceAdd, Nat.reduceBEq, Nat.reduceEqDiff, reduceIte, Nat.reduceLeDiff, Nat.reduceMul, Nat.reduceSub, reduceCtorEq] at c0 c1
 clear hcl
 obtain ⟨h5, hal⟩ := hinv
 by_cases hlt : k < d.length
 ·have hd0 : decide ((k : Int) < ((d.length : Nat) : Int)) = true := by first | (simpa using hlt; done) | (simp only [decide_eq_true_eq]; omega)
  have hv_0 := wrap_succ hlt md
  obtain ⟨n, hn⟩ := get_some hlt
  have hix := fun H => ints_idx HD.out hn H
  have hgn : d.getD k 0 = n := by simp [List.getD, hn]
  have hnx : (List.range (k + 1)).all (fun r => !(((p.count (r : Int) : Nat) : Int) != d.getD r 0)) = !(((p.count (k : Int) : Nat) : Int) != n) := by rw [List.range_succ, List.all_append, hal, List.all_cons, hgn]; simp
  have hno : (((p.count (k : Int) : Nat) : Int) != n) = true → (List.range d.length).all (fun r => !(((p.count (r : Int) : Nat) : Int) != d.getD r 0)) = false := fun e => by
   rw [List.all_eq_false]
   exact ⟨k, List.mem_range.2 hlt, by rw [hgn, e]; simp⟩
  have HNX := Lib.hid hnx
  have HNO := Lib.hid hno
  have HLT0 := Lib.hid hlt
  clear hn hgn hnx hno hal hlt
  repeat' (first | refine goS ?_ | refine go2 (fun hh => ?_) (fun hh => ?_) | fail)
  refine W.loopH (p.length) [0, 1, 5] [] (fun j e1 lm1 => ∃ s, e1.get 7 = some (.int .i64 ↑j) ∧ e1.get 6 = some (.int .i64 ((s : Nat) : Int)) ∧ (p.take j).count (k : Int) = s) ?_ ?_
  ·skip
   refine ⟨0, ?_, ?_, ?_⟩
   all_goals first | exact Z2 | (simp [go_sem, *]; done) | skip
   all_goals rfl
  intro j e1 lm1 hk1 hce hcl hinv
  simp only [keepE, and_true] at hce
  obtain ⟨c0, c1, c5⟩ := hce
  simp only [go_sem, *, Nat.reduceLT, Int.reduceEq, Int.reduceBEq, Int.reduceLE, Int.reduceLT, Nat.reduceAdd, Nat.reduceBEq, Nat.reduceEqDiff, reduceIte, Nat.reduceLeDiff, Nat.reduceMul, Nat.reduceSub, reduceCtorEq] at c0 c1 c5
  clear hcl
  obtain ⟨s, h7, h6, hs⟩ := hinv
  by_cases hjt : j < p.length
  ·have hd1 : decide ((j : Int) < ((p.length : Nat) : Int)) = true := by first | (simpa using hjt; done) | (simp only [decide_eq_true_eq]; omega)
   have hv_1 := wrap_succ hjt mp
   obtain ⟨r, hr⟩ := get_some hjt
   have hixp := fun H => ints_idx HP.out hr H
   have hnx : (p.take (j + 1)).count (k : Int) = s + (if (r == (k : Int)) = true then 1 else 0) := by
    rw [take_next hr, List.count_append, hs, List.count_singleton]
   have hsl : s ≤ j := by
    rw [← hs]
    exact Nat.le_trans List.count_le_length (by rw [List.length_take]; omega)
   have hw := wrap_succ (k := s) (m := p.length) (by omega) mp
   have HNX2 := Lib.hid hnx
   have HLT1 := Lib.hid hjt
   clear hr hnx hs hsl hjt
   cases e : (r == (k : Int)) with
   | true =>
    repeat' (first | refine goS ?_ | refine go2 (fun hh => ?_) (fun hh => ?_) | fail)
    all_goals refine contH_mk (by first | assumption | exact HLT1.out | exact HLT0.out) (by simp only [keepE, and_true, and_self, go_sem, *, Nat.reduceLT, Int.reduceEq, Int.reduceBEq, Int.reduceLE, Int.reduceLT, Nat.reduceAdd, Nat.reduceBEq, Nat.reduceEqDiff, reduceIte, Nat.reduceLeDiff, Nat.reduceMul, Nat.reduceSub, reduceCtorEq]) (by simp only [keepL, and_true, and_self, go_sem, *, Nat.reduceLT, Int.reduceEq, Int.reduceBEq, Int.reduceLE, Int.reduceLT, Nat.reduceAdd, Nat.reduceBEq, Nat.reduceEqDiff, reduceIte, Nat.reduceLeDiff, Nat.reduceMul, Nat.reduceSub, reduceCtorEq]) ?_
    all_goals refine ⟨s + 1, ?_, ?_, ?_⟩
    all_goals first | exact Z2 | skip
    all_goals (first | (rw [HNX2.out]; simp only [e, if_true]; done) | exact Z2)
   | false =>
    repeat' (first | refine goS ?_ | refine go2 (fun hh => ?_) (fun hh => ?_) | fail)
    all_goals refine contH_mk (by first | assumption | exact HLT1.out | exact HLT0.out) (by simp only [keepE, and_true, and_self, go_sem, *, Nat.reduceLT, Int.reduceEq, Int.reduceBEq, Int.reduceLE, Int.reduceLT, Nat.reduceAdd, Nat.reduceBEq, Nat.reduceEqDiff, reduceIte, Nat.reduceLeDiff, Nat.reduceMul, Nat.reduceSub, reduceCtorEq]) (by simp only [keepL, and_true, and_self, go_sem, *, Nat.reduceLT, Int.reduceEq, Int.reduceBEq, Int.reduceLE, Int.reduceLT, Nat.reduceAdd, Nat.reduceBEq, Nat.reduceEqDiff, reduceIte, Nat.reduceLeDiff, Nat.reduceMul, Nat.reduceSub, reduceCtorEq]) ?_
    all_goals refine ⟨s, ?_, ?_, ?_⟩
    all_goals first | exact Z2 | skip
    all_goals (first | (rw [HNX2.out]; simp only [e]; rfl) | exact Z2)
  ·have hd1 : decide ((j : Int) < ((p.length : Nat) : Int)) = false := by first | (simpa using hjt; done) | (simp only [decide_eq_false_iff_not]; omega)
   obtain rfl : j = p.length := by omega
   rw [List.take_length] at hs
   rw [hs] at HNX HNO
   clear hs
   cases e : ((s : Int) != n) with
   | true =>
    rw [HNO.out e]
    repeat' (first | refine goS ?_ | refine go2 (fun hh => ?_) (fun hh => ?_) | fail)
    all_goals (simp only [resV_def (X := dX c) Tryz.func65, Tryz.results65]; first | exact J5 | refine J6 ?_)
    all_goals rfl
   | false =>
    repeat' (first | refine goS ?_ | refine go2 (fun hh => ?_) (fun hh => ?_) | fail)
    all_goals refine contH_mk (by first | assumption | exact HLT0.out | exact HLT0.out) (by simp only [keepE, and_true, and_self, go_sem, *, Nat.reduceLT, Int.reduceEq, Int.reduceBEq, Int.reduceLE, Int.reduceLT, Nat.reduceAdd, Nat.reduceBEq, Nat.reduceEqDiff, reduceIte, Nat.reduceLeDiff, Nat.reduceMul, Nat.reduceSub, reduceCtorEq]) (by simp only [keepL, and_true, and_self, go_sem, *, Nat.reduceLT, Int.reduceEq, Int.reduceBEq, Int.reduceLE, Int.reduceLT, Nat.reduceAdd, Nat.reduceBEq, Nat.reduceEqDiff, reduceIte, Nat.reduceLeDiff, Nat.reduceMul, Nat.reduceSub, reduceCtorEq]) ?_
    all_goals refine ⟨?_, ?_⟩
    all_goals first | exact Z2 | skip
    all_goals (rw [HNX.out, e]; rfl)
 ·have hd0 : decide ((k : Int) < ((d.length : Nat) : Int)) = false := by first | (simpa using hlt; done) | (simp only [decide_eq_false_iff_not]; omega)
  obtain rfl : k = d.length := by omega
  rw [hal]
  clear hal
  repeat' (first | refine goS ?_ | refine go2 (fun hh => ?_) (fun hh => ?_) | fail)
  all_goals (simp only [resV_def (X := dX c) Tryz.func65, Tryz.results65]; first | exact J5 | refine J6 ?_)
  all_goals rfl
theorem dutyGo_drop {d : List Int} {k : Nat} {n : Int} {left : Int} (h : d[k]? = some n) : dutyGo left (d.drop k) = (inB n 0 left && dutyGo (w64 (left - n)) (d.drop (k + 1))) := by
 obtain ⟨d1, d2⟩ := List.getElem?_eq_some_iff.1 h
 rw [List.drop_eq_getElem_cons d1, d2, dutyGo]
set_option maxHeartbeats 4000000 in
theorem C48 (hc : CxR c) (h48 : c 48 = none) (m : Hs) (ra fa oa ha da : AV) (d : List Int) (hm : HsA m ra fa oa ha) (hd : slV intC da = some d) (h : Heap) :
  Cl (dX c) 48 [.agg [.int .i64 m.hours, ra, fa, oa, ha], da] h (.ret (.bool (dutyR m d)) h none) := by
 refine ClR.cl ?_
 have l1 := sl_len hm.r
 have o1 := sl_out hm.r
 have o2 := sl_out hm.f
 have o3 := sl_out hm.o
 have o4 := sl_out hm.h
 have ld := sl_len hd
 have od := sl_out hd
 have md := sl_max hd
 have HD := Lib.hid hd
 have K84' := Lib.hid (fun x left h => K84 (X := dX c) hc.h84 x 0 left h)
 unfold dutyR
 clear hm hd hc
 refine ClR.walk (c := _) h48 Tryz.func48 rfl (by kernel_rfl) rfl (fun e => by cases e) ?_
 try simp only [entryEnv, Nat.reduceAdd, List.nil_append, List.cons_append, emptyHp]
 repeat' (first | refine goS ?_ | refine go2 (fun hh => ?_) (fun hh => ?_) | fail)
 refine W.loopH (d.length) [1, 2] [2] (fun k e lm => ∃ left, e.get 6 = some (.int .i64 ↑k) ∧ e.get 5 = some (.int .i64 left) ∧ dutyGo left (d.drop k) = dutyGo m.hours d) ?_ ?_
 ·skip
  refine ⟨m.hours, ?_, ?_, ?_⟩
  all_goals first | exact Z2 | (simp [go_sem, *]; done) | skip
  all_goals rfl
 intro k e lm hk0 hce hcl hinv
 simp only [keepE, and_true] at hce
 obtain ⟨c1, c2⟩ := hce
 simp only [go_sem, *, Nat.reduceLT, Int.reduceEq, Int.reduceBEq, Int.reduceLE, Int.reduceLT, Nat.reduceAdd, Nat.reduceBEq, Nat.reduceEqDiff, reduceIte, Nat.reduceLeDiff, Nat.reduceMul, Nat.reduceSub, reduceCtorEq] at c1 c2
 simp only [keepL, and_true] at hcl
 have d2 := hcl
 clear hcl
 simp only [go_sem, *, Nat.reduceLT, Int.reduceEq, Int.reduceBEq, Int.reduceLE, Int.reduceLT, Nat.reduceAdd, Nat.reduceBEq, Nat.reduceEqDiff, reduceIte, Nat.reduceLeDiff, Nat.reduceMul, Nat.reduceSub, reduceCtorEq] at d2
 obtain ⟨left, h6, h5, hs⟩ := hinv
 by_cases hlt : k < d.length
 ·have hd0 : decide ((k : Int) < ((d.length : Nat) : Int)) = true := by first | (simpa using hlt; done) | (simp only [decide_eq_true_eq]; omega)
  have hv_0 := wrap_succ hlt md
  obtain ⟨n, hn⟩ := get_some hlt
  have hix := fun H => ints_idx HD.out hn H
  rw [dutyGo_drop hn] at hs
  have k84 := fun h => K84'.out n left h
  have HS := Lib.hid hs
  have HLT0 := Lib.hid hlt
  clear hn hs hlt
  cases e : inB n 0 left with
  | false =>
   rw [e] at k84
   have hno : dutyGo m.hours d = false := by rw [← HS.out, e]; rfl
   rw [hno, Bool.false_and]
   clear hno
   repeat' (first | refine goS ?_ | (apply U6; exact Z1; exact Z1; (focus (simp only [List.nil_append, List.append_nil]; first | exact k84 _)); simp only [pM, pN, rR, rP]) | refine go2 (fun hh => ?_) (fun hh => ?_) | fail)
   all_goals (simp only [resV_def (X := dX c) Tryz.func48, Tryz.results48]; first | exact J5 | refine J6 ?_)
   all_goals rfl
  | true =>
   rw [e] at k84
   repeat' (first | refine goS ?_ | (apply U6; exact Z1; exact Z1; (focus (simp only [List.nil_append, List.append_nil]; first | exact k84 _)); simp only [pM, pN, rR, rP]) | refine go2 (fun hh => ?_) (fun hh => ?_) | fail)
   all_goals refine contH_mk (by first | assumption | exact HLT0.out | exact HLT0.out) (by simp only [keepE, and_true, and_self, go_sem, *, Nat.reduceLT, Int.reduceEq, Int.reduceBEq, Int.reduceLE, Int.reduceLT, Nat.reduceAdd, Nat.reduceBEq, Nat.reduceEqDiff, reduceIte, Nat.reduceLeDiff, Nat.reduceMul, Nat.reduceSub, reduceCtorEq]) (by simp only [keepL, and_true, and_self, go_sem, *, Nat.reduceLT, Int.reduceEq, Int.reduceBEq, Int.reduceLE, Int.reduceLT, Nat.reduceAdd, Nat.reduceBEq, Nat.reduceEqDiff, reduceIte, Nat.reduceLeDiff, Nat.reduceMul, Nat.reduceSub, reduceCtorEq]) ?_
   all_goals refine ⟨IntKind.i64.wrap (left - n), ?_, ?_, ?_⟩
   all_goals first | exact Z2 | skip
   all_goals (rw [← HS.out, e]; rfl)
 ·have hd0 : decide ((k : Int) < ((d.length : Nat) : Int)) = false := by first | (simpa using hlt; done) | (simp only [decide_eq_false_iff_not]; omega)
  obtain rfl : k = d.length := by omega
  rw [List.drop_of_length_le (Nat.le_refl _), dutyGo] at hs
  rw [← hs, Bool.true_and]
  clear hs
  repeat' (first | refine goS ?_ | refine go2 (fun hh => ?_) (fun hh => ?_) | fail)
  all_goals (simp only [resV_def (X := dX c) Tryz.func48, Tryz.results48]; first | exact J5 | refine J6 ?_)
  all_goals rfl
end
noncomputable def cRI : Itr
 | 55 => some (pureFn sp55)
 | 99 => some (newQ sp99)
 | _ => none
theorem cRI_sound : Sound (dX cRI) := dX_sound (fun f g h => by
 unfold cRI at h
 split at h
 ·cases h; exact F55
 ·cases h; exact F99
 ·cases h)
def sp49 : List AV → Option AV
 | [x, da, .bool w] => match hsV x, slV intC da with
  | some m, some d => if houseB m = true then some (.tuple (ordE m (ordP m d w))) else none
  | _, _ => none
 | _ => none
theorem ordE_pur (m : Hs) (o : Option (List Int)) : AV.purL (ordE m o) = true := by
 cases o with
 | none => rfl
 | some p => simp only [ordE, AV.purL, intsE_pur', AV.pur, Bool.and_self]
theorem p49 : ∀ args v, sp49 args = some v → v.pur = true := by
 intro args v h
 unfold sp49 at h
 split at h
 ·split at h
  ·split at h
   ·cases h
    simp only [AV.pur, ordE_pur]
   ·cases h
  ·cases h
 ·cases h
theorem eq24v {l : List AV} : binV Tryz.prog .eql 24 true (.vslice l) .nilslice = some (.bool false) := by
 simp [binV, eqOp, eqV, isSliceT, whenB, Tryz.underlying24]
set_option maxHeartbeats 16000000 in
theorem R49 (m : Hs) (ra fa oa ha da : AV) (d : List Int) (w : Bool) (hm : HsA m ra fa oa ha) (hd : slV intC da = some d) (hb : houseB m = true) : ClR (dX cRI) 49 [.agg [.int .i64 m.hours, ra, fa, oa, ha], da, .bool w] emptyHp (isRet (.tuple (ordE m (ordP m d w)))) := by
 have ho := house_ok hb
 obtain ⟨nn, hnn, hnt, hn1, hn4, hol⟩ := ho_parts ho
 have hr3 := ho.rooms
 have o1 := sl_out hm.r
 have o2 := sl_out hm.f
 have o3 := sl_out hm.o
 have o4 := sl_out hm.h
 have od := sl_out hd
 have k55 := fun h => K55 (X := dX cRI) rfl hm hb h
 have k99 := fun h => K99 (X := dX cRI) rfl hm hb h
 have h63 := fun (pa : AV) (p : List Int) (hp : slV intC pa = some p) (hq : pathB m p = true) (h : Heap) => C63 (c := cRI) rfl rfl m ho pa p h (pth_of hp) hq
 have h65 := fun (pa : AV) (p : List Int) (hp : slV intC pa = some p) (h : Heap) => C65 (c := cRI) rfl pa da p d hp hd h
 have hmem : ∀ p ∈ allP m.rooms.length nn, pathB m p = true ∧ p.length = nn := fun p hp => by
  obtain ⟨q1, q2⟩ := allP_mem hp
  refine ⟨?_, q1⟩
  unfold pathB
  rw [q1, Bool.and_eq_true, List.all_eq_true]
  refine ⟨by rw [hnn]; simp, fun x hx => ?_⟩
  rw [w64_small (by omega) (by omega), inB_iff]
  have := q2 x hx
  omega
 have hl256 : (allP m.rooms.length nn).length ≤ 256 := by
  rw [allP_len]
  have h1 : (m.rooms.length + 1) ^ nn ≤ 4 ^ nn := Nat.pow_le_pow_left (by omega) nn
  have h2 : 4 ^ nn ≤ 4 ^ 4 := Nat.pow_le_pow_right (by omega) (by omega)
  omega
 have hli := rows_lis (g := allP m.rooms.length nn) (by unfold maxL; omega) fun l hl => by rw [(hmem l hl).2]; unfold maxL; omega
 have ls := lis_len hli
 have os := lis_out hli
 have a1 := (slN_is (fksE (failsH m))).out
 have a2 := (slN_is (lowsA m (failsH m))).out
 have a3 := (slN_is (highsA m (failsH m))).out
 have hrow : ∀ (k : Nat) (p : List Int), (allP m.rooms.length nn)[k]? = some p → ∀ H, indexAddrV Tryz.prog H 36 (slN (rowsE (allP m.rooms.length nn))) (.int .i64 ↑k) = some (.vptr [slN (intsE p)]) := fun k p hp H => by
  obtain ⟨b, h1, h2⟩ := lis_idx hli hp
  have hv : slN (intsE p) = b := by
   have hs := ints_sl p (by rw [(hmem p (List.mem_of_getElem? hp)).2]; unfold maxL; omega)
   have e1 : (rowsE (allP m.rooms.length nn))[k]? = some (slN (intsE p)) := by unfold rowsE; rw [List.getElem?_map, hp]; rfl
   have e2 := (slN_is (rowsE (allP m.rooms.length nn))).idx (P := Tryz.prog) (hp := H) (x := slN (intsE p)) (m := 1) Tryz.underlying36 ty_lay24 e1 (by rw [(slN_is (intsE p)).cells]; rfl)
   rw [(slN_is (intsE p)).cells, h2 H] at e2
   cases e2
   rfl
  rw [hv]
  exact h2 H
 have hne : ∀ p ∈ allP m.rooms.length nn, ∃ l, slN (intsE p) = .vslice l := fun p hp => by
  have := (hmem p hp).2
  cases p with
  | nil => simp at this; omega
  | cons a r => exact ⟨_, rfl⟩
 have hnil : binV Tryz.prog .eql 24 true .nilslice .nilslice = some (.bool true) := eq24n
 unfold airE at k55 h63
 rw [ord_fold]
 rw [hnt] at k99 ⊢
 rw [hnn] at k55 k99 ⊢
 obtain ⟨L, hL⟩ : ∃ L, L = allP m.rooms.length nn := ⟨_, rfl⟩
 rw [← hL] at k99 hmem hl256 hli ls os hrow hne ⊢
 have H63 := Lib.hid h63
 have H65 := Lib.hid h65
 have HMEM := Lib.hid hmem
 have HROW := Lib.hid hrow
 have HNE := Lib.hid hne
 have HN4 := Lib.hid hn4
 have HL := Lib.hid hl256
 clear hm hd hb ho hnn hnt hol hn1 hn4 hr3 h63 h65 hmem hli hL hl256 hrow hne
 generalize slN (fksE (failsH m)) = b1 at *
 generalize slN (lowsA m (failsH m)) = b2 at *
 generalize slN (highsA m (failsH m)) = b3 at *
 generalize slN (rowsE L) = lv at *
 refine ClR.walk (c := _) rfl Tryz.func49 rfl (by kernel_rfl) rfl isRet_fail ?_
 try simp only [entryEnv, Nat.reduceAdd, List.nil_append, List.cons_append, emptyHp]
 repeat' (first | (apply Z7 (o := ⟨some 8, .alloc 91, 0, _, _, none⟩); exact rfl; exact rfl; exact Z1; simp only [pM, pN]) | (apply W.drawQ (id := 1) (l1 := [4, 0, 1, 2, 3]) (l2 := [5, 6]); kernel_rfl; kernel_rfl; kernel_rfl; exact Z4) | refine go1 ?_ | (apply U6; exact Z1; exact Z1; (focus (simp only [List.nil_append, List.append_nil]; first | exact k55 _ | exact k99 _)); simp only [pM, pN, rR, rP]) | refine go2 (fun hh => ?_) (fun hh => ?_) | fail)
 refine W.loopH (L.length) [1, 2, 8, 9] [8] (fun k e lm => ∃ bv mv, e.get 12 = some (.int .i64 ↑k) ∧ e.get 10 = some (bv) ∧ e.get 11 = some (.int .i64 mv) ∧ [bv, .int .i64 mv] = ordE m ((L.take k).foldl (ordS m d w) none)) ?_ ?_
 ·skip
  refine ⟨.nilslice, 0, ?_, ?_, ?_, ?_⟩
  all_goals first | exact Z2 | (simp [go_sem, *]; done) | skip
  all_goals rfl
 intro k e lm hk0 hce hcl hinv
 simp only [keepE, and_true] at hce
 obtain ⟨c1, c2, c8, c9⟩ := hce
 simp only [go_sem, *, Nat.reduceLT, Int.reduceEq, Int.reduceBEq, Int.reduceLE, Int.reduceLT, Nat.reduceAdd, Nat.reduceBEq, Nat.reduceEqDiff, reduceIte, Nat.reduceLeDiff, Nat.reduceMul, Nat.reduceSub, reduceCtorEq] at c1 c2 c8 c9
 simp only [keepL, and_true] at hcl
 have d8 := hcl
 clear hcl
 simp only [go_sem, *, Nat.reduceLT, Int.reduceEq, Int.reduceBEq, Int.reduceLE, Int.reduceLT, Nat.reduceAdd, Nat.reduceBEq, Nat.reduceEqDiff, reduceIte, Nat.reduceLeDiff, Nat.reduceMul, Nat.reduceSub, reduceCtorEq] at d8
 obtain ⟨bv, mv, h12, h10, h11, hbm⟩ := hinv
 by_cases hlt : k < L.length
 ·have hd0 : decide ((k : Int) < ((L.length : Nat) : Int)) = true := by first | (simpa using hlt; done) | (simp only [decide_eq_true_eq]; omega)
  have hv_0 := wrap_succ hlt (by have := HL.out; unfold maxL; omega)
  obtain ⟨p, hp0⟩ := get_some hlt
  have hmp := List.mem_of_getElem? hp0
  obtain ⟨q1, q2⟩ := HMEM.out p hmp
  have hix := fun H => HROW.out k p hp0 H
  have hs := ints_sl p (by rw [q2]; have := HN4.out; unfold maxL; omega)
  have k63 := H63.out _ p hs q1
  have k65 := H65.out _ p hs
  have hnx : (L.take (k + 1)).foldl (ordS m d w) none = ordS m d w ((L.take k).foldl (ordS m d w) none) p := by rw [take_next hp0, List.foldl_append]; rfl
  have hpre : ∀ q, (L.take k).foldl (ordS m d w) none = some q → q ∈ L := fun q hq => by
   have key : ∀ (l : List (List Int)) (o : Option (List Int)), l.foldl (ordS m d w) o = some q → q ∈ l ∨ o = some q := by
    intro l
    induction l with
    | nil => intro o h; exact .inr h
    | cons a l ih =>
     intro o h
     rw [List.foldl_cons] at h
     rcases ih _ h with h1 | h1
     ·exact .inl (by simp [h1])
     ·unfold ordS at h1
      split at h1
      ·rcases best_mem [a] o q h1 with h2 | h2
       ·exact .inl (by simp at h2; simp [h2])
       ·exact .inr h2
      ·exact .inr h1
   rcases key _ _ hq with h1 | h1
   ·exact List.mem_of_mem_take h1
   ·cases h1
  generalize hst : (L.take k).foldl (ordS m d w) none = st at *
  have ob := (slN_is (intsE p)).out
  have hcb := (slN_is (intsE p)).cells
  have htb := (slN_is (intsE p)).tup
  simp only [AV.cells] at hcb
  simp only [isTuple] at htb
  have HNX := Lib.hid hnx
  have HLT0 := Lib.hid hlt
  cases hdo : doesB p d with
  | false =>
   rw [hdo] at k65
   have hw' : ordS m d w st p = st := by unfold ordS; rw [hdo]; rfl
   have HW := Lib.hid hw'
   have HBM := Lib.hid hbm
   have hbo : outV (some bv) = some bv := by
    cases st with
    | none => cases hbm; rfl
    | some q => cases hbm; exact (slN_is _).out
   clear hp0 hmp q1 q2 hs hnx hpre hst hlt hdo hw' hbm
   generalize slN (intsE p) = pv at *
   repeat' (first | (apply W.drawQ (id := 8) (l1 := [0, 1, 2, 3, 4, 5, 6, 7]) (l2 := []); kernel_rfl; kernel_rfl; kernel_rfl; exact Z4) | refine go1 ?_ | (apply U6; exact Z1; exact Z1; (focus (simp only [List.nil_append, List.append_nil]; first | exact k65 _)); simp only [pM, pN, rR, rP]) | refine go2 (fun hh => ?_) (fun hh => ?_) | fail)
   all_goals refine contH_mk (by first | assumption | exact HLT0.out | exact HLT0.out) (by simp only [keepE, and_true, and_self, go_sem, *, Nat.reduceLT, Int.reduceEq, Int.reduceBEq, Int.reduceLE, Int.reduceLT, Nat.reduceAdd, Nat.reduceBEq, Nat.reduceEqDiff, reduceIte, Nat.reduceLeDiff, Nat.reduceMul, Nat.reduceSub, reduceCtorEq]) (by simp only [keepL, and_true, and_self, go_sem, *, Nat.reduceLT, Int.reduceEq, Int.reduceBEq, Int.reduceLE, Int.reduceLT, Nat.reduceAdd, Nat.reduceBEq, Nat.reduceEqDiff, reduceIte, Nat.reduceLeDiff, Nat.reduceMul, Nat.reduceSub, reduceCtorEq]) ?_
   all_goals refine ⟨bv, mv, ?_, ?_, ?_, ?_⟩
   all_goals first | exact Z2 | skip
   all_goals (rw [HNX.out, HW.out]; exact HBM.out)
  | true =>
   rw [hdo] at k65
   cases st with
   | none =>
    have hw' : ordS m d w none p = some p := by unfold ordS bestF; rw [hdo]; rfl
    have HW := Lib.hid hw'
    cases hbm
    clear hp0 hmp q1 q2 hs hnx hpre hst hlt hdo hw'
    have HE := Lib.hid (show ordE m (some p) = [slN (intsE p), .int .i64 (airS m p).2] from rfl)
    generalize (airS m p).1 = lo at *
    generalize (airS m p).2 = hi at *
    generalize slN (intsE p) = pv at *
    repeat' (first | (refine WO1.gund rfl rfl ?_ ?_; exact Z2; simp only [pM, pN, rR, rP]) | (apply W.drawQ (id := 8) (l1 := [0, 1, 2, 3, 4, 5, 6, 7]) (l2 := []); kernel_rfl; kernel_rfl; kernel_rfl; exact Z4) | refine go1 ?_ | (apply U6; exact Z1; exact Z1; (focus (simp only [List.nil_append, List.append_nil]; first | exact k65 _ | exact k63 _)); simp only [pM, pN, rR, rP]) | refine go2 (fun hh => ?_) (fun hh => ?_) | fail)
    all_goals refine contH_mk (by first | assumption | exact HLT0.out | exact HLT0.out) (by simp only [keepE, and_true, and_self, go_sem, *, Nat.reduceLT, Int.reduceEq, Int.reduceBEq, Int.reduceLE, Int.reduceLT, Nat.reduceAdd, Nat.reduceBEq, Nat.reduceEqDiff, reduceIte, Nat.reduceLeDiff, Nat.reduceMul, Nat.reduceSub, reduceCtorEq]) (by simp only [keepL, and_true, and_self, go_sem, *, Nat.reduceLT, Int.reduceEq, Int.reduceBEq, Int.reduceLE, Int.reduceLT, Nat.reduceAdd, Nat.reduceBEq, Nat.reduceEqDiff, reduceIte, Nat.reduceLeDiff, Nat.reduceMul, Nat.reduceSub, reduceCtorEq]) ?_
    all_goals refine ⟨pv, hi, ?_, ?_, ?_, ?_⟩
    all_goals first | exact Z2 | skip
    all_goals (rw [HNX.out, HW.out]; exact HE.out.symm)
   | some q =>
    obtain ⟨lq, hlq⟩ := HNE.out q (hpre q rfl)
    have hneq : binV Tryz.prog .eql 24 true (slN (intsE q)) .nilslice = some (.bool false) := by rw [hlq]; exact eq24v
    have hbo := (slN_is (intsE q)).out
    have hbc := (slN_is (intsE q)).cells
    have hbt := (slN_is (intsE q)).tup
    have hw' : ordS m d w (some q) p = if btW w (mostP m p) (mostP m q) = true then some p else some q := by unfold ordS bestF; rw [hdo]; rfl
    have HW := Lib.hid hw'
    have he : [bv, .int .i64 mv] = [slN (intsE q), AV.int .i64 (mostP m q)] := hbm
    cases he
    clear hp0 hmp q1 q2 hs hnx hpre hst hlt hdo hw' hbm hlq
    have HE := Lib.hid (show ordE m (some p) = [slN (intsE p), .int .i64 (airS m p).2] from rfl)
    have HE2 := Lib.hid (show ordE m (some q) = [slN (intsE q), .int .i64 (mostP m q)] from rfl)
    have hmo : mostP m p = (airS m p).2 := rfl
    rw [hmo] at HW
    clear hmo
    generalize mostP m q = mq at *
    generalize (airS m p).1 = lo at *
    generalize (airS m p).2 = hi at *
    generalize slN (intsE p) = pv at *
    generalize slN (intsE q) = qv at *
    simp only [AV.cells] at hbc
    simp only [isTuple] at hbt
    unfold btW at HW
    cases w with
    | true =>
     simp only [if_true] at HW
     cases e : decide (hi > mq) with
     | true =>
      repeat' (first | (refine WO1.gund rfl rfl ?_ ?_; exact Z2; simp only [pM, pN, rR, rP]) | (apply W.drawQ (id := 8) (l1 := [0, 1, 2, 3, 4, 5, 6, 7]) (l2 := []); kernel_rfl; kernel_rfl; kernel_rfl; exact Z4) | refine go1 ?_ | (apply U6; exact Z1; exact Z1; (focus (simp only [List.nil_append, List.append_nil]; first | exact k65 _ | exact k63 _)); simp only [pM, pN, rR, rP]) | refine go2 (fun hh => ?_) (fun hh => ?_) | fail)
      all_goals refine contH_mk (by first | assumption | exact HLT0.out | exact HLT0.out) (by simp only [keepE, and_true, and_self, go_sem, *, Nat.reduceLT, Int.reduceEq, Int.reduceBEq, Int.reduceLE, Int.reduceLT, Nat.reduceAdd, Nat.reduceBEq, Nat.reduceEqDiff, reduceIte, Nat.reduceLeDiff, Nat.reduceMul, Nat.reduceSub, reduceCtorEq]) (by simp only [keepL, and_true, and_self, go_sem, *, Nat.reduceLT, Int.reduceEq, Int.reduceBEq, Int.reduceLE, Int.reduceLT, Nat.reduceAdd, Nat.reduceBEq, Nat.reduceEqDiff, reduceIte, Nat.reduceLeDiff, Nat.reduceMul, Nat.reduceSub, reduceCtorEq]) ?_
      all_goals refine ⟨pv, hi, ?_, ?_, ?_, ?_⟩
      all_goals first | exact Z2 | skip
      all_goals (rw [HNX.out, HW.out, if_pos e]; exact HE.out.symm)
     | false =>
      repeat' (first | (refine WO1.gund rfl rfl ?_ ?_; exact Z2; simp only [pM, pN, rR, rP]) | (apply W.drawQ (id := 8) (l1 := [0, 1, 2, 3, 4, 5, 6, 7]) (l2 := []); kernel_rfl; kernel_rfl; kernel_rfl; exact Z4) | refine go1 ?_ | (apply U6; exact Z1; exact Z1; (focus (simp only [List.nil_append, List.append_nil]; first | exact k65 _ | exact k63 _)); simp only [pM, pN, rR, rP]) | refine go2 (fun hh => ?_) (fun hh => ?_) | fail)
      all_goals refine contH_mk (by first | assumption | exact HLT0.out | exact HLT0.out) (by simp only [keepE, and_true, and_self, go_sem, *, Nat.reduceLT, Int.reduceEq, Int.reduceBEq, Int.reduceLE, Int.reduceLT, Nat.reduceAdd, Nat.reduceBEq, Nat.reduceEqDiff, reduceIte, Nat.reduceLeDiff, Nat.reduceMul, Nat.reduceSub, reduceCtorEq]) (by simp only [keepL, and_true, and_self, go_sem, *, Nat.reduceLT, Int.reduceEq, Int.reduceBEq, Int.reduceLE, Int.reduceLT, Nat.reduceAdd, Nat.reduceBEq, Nat.reduceEqDiff, reduceIte, Nat.reduceLeDiff, Nat.reduceMul, Nat.reduceSub, reduceCtorEq]) ?_
      all_goals refine ⟨qv, mq, ?_, ?_, ?_, ?_⟩
      all_goals first | exact Z2 | skip
      all_goals (rw [HNX.out, HW.out, if_neg (by rw [e]; simp)]; exact HE2.out.symm)
    | false =>
     simp only [Bool.false_eq_true, if_false] at HW
     cases e : decide (hi < mq) with
     | true =>
      repeat' (first | (refine WO1.gund rfl rfl ?_ ?_; exact Z2; simp only [pM, pN, rR, rP]) | (apply W.drawQ (id := 8) (l1 := [0, 1, 2, 3, 4, 5, 6, 7]) (l2 := []); kernel_rfl; kernel_rfl; kernel_rfl; exact Z4) | refine go1 ?_ | (apply U6; exact Z1; exact Z1; (focus (simp only [List.nil_append, List.append_nil]; first | exact k65 _ | exact k63 _)); simp only [pM, pN, rR, rP]) | refine go2 (fun hh => ?_) (fun hh => ?_) | fail)
      all_goals refine contH_mk (by first | assumption | exact HLT0.out | exact HLT0.out) (by simp only [keepE, and_true, and_self, go_sem, *, Nat.reduceLT, Int.reduceEq, Int.reduceBEq, Int.reduceLE, Int.reduceLT, Nat.reduceAdd, Nat.reduceBEq, Nat.reduceEqDiff, reduceIte, Nat.reduceLeDiff, Nat.reduceMul, Nat.reduceSub, reduceCtorEq]) (by simp only [keepL, and_true, and_self, go_sem, *, Nat.reduceLT, Int.reduceEq, Int.reduceBEq, Int.reduceLE, Int.reduceLT, Nat.reduceAdd, Nat.reduceBEq, Nat.reduceEqDiff, reduceIte, Nat.reduceLeDiff, Nat.reduceMul, Nat.reduceSub, reduceCtorEq]) ?_
      all_goals refine ⟨pv, hi, ?_, ?_, ?_, ?_⟩
      all_goals first | exact Z2 | skip
      all_goals (rw [HNX.out, HW.out, if_pos e]; exact HE.out.symm)
     | false =>
      repeat' (first | (refine WO1.gund rfl rfl ?_ ?_; exact Z2; simp only [pM, pN, rR, rP]) | (apply W.drawQ (id := 8) (l1 := [0, 1, 2, 3, 4, 5, 6, 7]) (l2 := []); kernel_rfl; kernel_rfl; kernel_rfl; exact Z4) | refine go1 ?_ | (apply U6; exact Z1; exact Z1; (focus (simp only [List.nil_append, List.append_nil]; first | exact k65 _ | exact k63 _)); simp only [pM, pN, rR, rP]) | refine go2 (fun hh => ?_) (fun hh => ?_) | fail)
      all_goals refine contH_mk (by first | assumption | exact HLT0.out | exact HLT0.out) (by simp only [keepE, and_true, and_self, go_sem, *, Nat.reduceLT, Int.reduceEq, Int.reduceBEq, Int.reduceLE, Int.reduceLT, Nat.reduceAdd, Nat.reduceBEq, Nat.reduceEqDiff, reduceIte, Nat.reduceLeDiff, Nat.reduceMul, Nat.reduceSub, reduceCtorEq]) (by simp only [keepL, and_true, and_self, go_sem, *, Nat.reduceLT, Int.reduceEq, Int.reduceBEq, Int.reduceLE, Int.reduceLT, Nat.reduceAdd, Nat.reduceBEq, Nat.reduceEqDiff, reduceIte, Nat.reduceLeDiff, Nat.reduceMul, Nat.reduceSub, reduceCtorEq]) ?_
      all_goals refine ⟨qv, mq, ?_, ?_, ?_, ?_⟩
      all_goals first | exact Z2 | skip
      all_goals (rw [HNX.out, HW.out, if_neg (by rw [e]; simp)]; exact HE2.out.symm)
 ·have hd0 : decide ((k : Int) < ((L.length : Nat) : Int)) = false := by first | (simpa using hlt; done) | (simp only [decide_eq_false_iff_not]; omega)
  obtain rfl : k = L.length := by omega
  rw [List.take_length] at hbm
  rw [← hbm]
  have hbo : outV (some bv) = some bv ∧ isTuple bv = false ∧ bv.cells = [bv] := by
   cases hq : L.foldl (ordS m d w) none with
   | none => rw [hq] at hbm; cases hbm; exact ⟨rfl, rfl, rfl⟩
   | some q => rw [hq] at hbm; cases hbm; exact ⟨(slN_is _).out, (slN_is _).tup, (slN_is _).cells⟩
  have hfz : frz2 ⟨0, .nil⟩ bv = some (bv, ⟨0, .nil⟩) := by
   cases hq : L.foldl (ordS m d w) none with
   | none => rw [hq] at hbm; cases hbm; rfl
   | some q => rw [hq] at hbm; cases hbm; exact (slN_is _).frz2 _
  obtain ⟨hb1, hb2, hb3⟩ := hbo
  simp only [AV.cells] at hb3
  simp only [isTuple] at hb2
  clear hbm
  repeat' (first | refine goS ?_ | refine go2 (fun hh => ?_) (fun hh => ?_) | fail)
  all_goals (simp only [resV_def (X := dX cRI) Tryz.func49, Tryz.results49]; first | exact J5 | refine J6 ?_)
  all_goals rfl
theorem F49 : IntrFn Tryz.prog 49 (pureFn sp49) := by
 refine pure_fn (X := dX cRI) cRI_sound p49 ?_
 intro args v h
 unfold sp49 at h
 split at h
 ·split at h
  ·rename_i m d hm hd
   split at h
   ·rename_i hb
    have h := Option.some.inj h
    subst h
    obtain ⟨ra, fa, oa, ha, rfl, hA⟩ := hs_parts' hm
    exact R49 m ra fa oa ha _ d _ hA hd hb
   ·cases h
  ·cases h
 ·cases h
theorem K49 {X : Ctx} (hX : X.intr 49 = some (pureFn sp49)) {m : Hs} {ra fa oa ha da : AV} {d : List Int} (hm : HsA m ra fa oa ha) (hd : slV intC da = some d) (hb : houseB m = true) (w : Bool) (h : Heap) : Cl X 49 [.agg [.int .i64 m.hours, ra, fa, oa, ha], da, .bool w] h (.ret (.tuple (ordE m (ordP m d w))) h none) :=
 Cl.intr hX (by
  have h1 := hm.pur
  have h2 := hm.hs
  simp only [pureFn, AV.purL, h1, sl_pur hd, show (AV.bool w).pur = true from rfl, Bool.and_self, if_true, sp49, h2, hd, hb])
end Go.AM
