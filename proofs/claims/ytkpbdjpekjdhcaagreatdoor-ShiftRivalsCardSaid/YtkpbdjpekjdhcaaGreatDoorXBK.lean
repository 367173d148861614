/-
  A part of the proof: contracts of functions.
-/
import Derived.Test.YtkpbdjpekjdhcaaGreatDoorXBG
import Derived.Test.YtkpbdjpekjdhcaaGreatDoorXBJ
set_option linter.unusedSectionVars false
set_option linter.unusedVariables false
set_option linter.unusedSimpArgs false
set_option maxRecDepth 100000
namespace Go.AM
open Go Go.Proofs
variable [Keep]
attribute [local irreducible] W WO WO1 WD WQ WT thenQ blockQ endR isRet retK Cl ClR
open Go.TX (Rm Fa Ha Hs)
def dutyGo : Int -> List Int -> Bool
 | _, [] => true
 | left, n :: l => inB n 0 left && dutyGo (w64 (left - n)) l
def dutyR (m : Hs) (d : List Int) : Bool := dutyGo m.hours d && ((d.length : Int) == (m.rooms.length : Int))
def dutyP (m : Hs) (d : List Int) : Bool := ((d.length : Int) == (m.rooms.length : Int)) && !(d.any fun n => !inB n 0 m.hours) && decide (sumW d <= m.hours)
structure DutyOk (m : Hs) (d : List Int) : Prop where
 len : d.length = m.rooms.length
 val : ∀ n ∈ d, 0 <= n /\ n <= 4
def doesB (p d : List Int) : Bool := (List.range d.length).all fun r => !(((p.count (r : Int) : Nat) : Int) != d.getD r 0)
theorem paths_filter {rl : Nat} {su : List Int -> Int -> Bool} {P : List Int -> Bool} (h : ∀ (q l : List Int) (r : Int), -1 <= r -> r < rl -> P (q ++ r :: l) = true -> su q r = true) : ∀ d q, (pathsL su rl d q).filter P = (pathsL (fun _ _ => true) rl d q).filter P
 | 0, q => rfl
 | d + 1, q => by
  have key : ∀ L : List Nat, (∀ i ∈ L, i < rl + 1) -> (L.flatMap fun i : Nat => if su q ((i : Int) - 1) = true then pathsL su rl d (q ++ [(i : Int) - 1]) else []).filter P = (L.flatMap fun i : Nat => if (fun _ _ => true : List Int -> Int -> Bool) q ((i : Int) - 1) = true then pathsL (fun _ _ => true) rl d (q ++ [(i : Int) - 1]) else []).filter P := by
   intro L
   induction L with
   | nil => intro _; rfl
   | cons i L ih =>
    intro hL
    rw [List.flatMap_cons, List.flatMap_cons, List.filter_append, List.filter_append, ih fun j hj => hL j (by simp [hj])]
    congr 1
    have hi := hL i (by simp)
    cases hs : su q ((i : Int) - 1) with
    | true =>
     rw [if_pos rfl, if_pos rfl]
     exact paths_filter h d _
    | false =>
     rw [if_neg (by simp), if_pos rfl, paths_all]
     symm
     rw [List.filter_nil, List.filter_eq_nil_iff]
     intro p hp
     obtain ⟨t, _, rfl⟩ := List.mem_map.1 hp
     intro hP
     rw [List.append_assoc] at hP
     have := h q t ((i : Int) - 1) (by omega) (by omega) hP
     rw [hs] at this
     cases this
  rw [pathsL, pathsL]
  exact key _ fun i hi => List.mem_range.1 hi
def bestF (bt : Int -> Int -> Bool) (f : List Int -> Int) (o : Option (List Int)) (p : List Int) : Option (List Int) := match o with
 | none => some p
 | some q => if bt (f p) (f q) = true then some p else some q
def btW (w : Bool) (a b : Int) : Bool := if w = true then decide (a > b) else decide (a < b)
def mostP (m : Hs) (p : List Int) : Int := (airS m p).2
def ordL (m : Hs) (d : List Int) : List (List Int) := (allP m.rooms.length m.hours.toNat).filter fun p => doesB p d
def ordP (m : Hs) (d : List Int) (w : Bool) : Option (List Int) := (ordL m d).foldl (bestF (btW w) (mostP m)) none
def ordE (m : Hs) (o : Option (List Int)) : List AV := match o with
 | none => [.nilslice, .int .i64 0]
 | some p => [slN (intsE p), .int .i64 (mostP m p)]
attribute [local irreducible] houseB pathB airS failsH hasB allP
section
variable {c : Itr}
end
theorem eq24v {l : List AV} : binV Tryz.prog .eql 24 true (.vslice l) .nilslice = some (.bool false) := by
 simp [binV, eqOp, eqV, isSliceT, whenB, Tryz.underlying24]
end Go.AM
namespace Go.AM
open Go Go.Proofs
variable [Keep]
attribute [local irreducible] W WO WO1 WD WQ WT thenQ blockQ endR isRet retK Cl ClR
open Go.TX (Rm Fa Ha Hs)
def lexD : List Int -> List Int -> Option Bool
 | a :: p, b :: q => if (a != b) = true then some (decide (a < b)) else lexD p q
 | _, _ => none
def befG : List (List Int) -> List (List Int) -> Bool
 | a :: ar, b :: br => (lexD a b).getD (befG ar br)
 | _, _ => false
theorem lexD_self : ∀ p : List Int, lexD p p = none
 | [] => rfl
 | a :: p => by rw [lexD, if_neg (by simp)]; exact lexD_self p
theorem pathM {m : Hs} (ho : HOk m) {p : List Int} (h : pathB m p = true) : p ∈ allP m.rooms.length m.hours.toNat := by
 have hh := ho.hours
 have hr := ho.rooms
 unfold pathB at h
 rw [Bool.and_eq_true, List.all_eq_true] at h
 obtain ⟨h1, h2⟩ := h
 have hl : p.length = m.hours.toNat := by
  simp only [beq_iff_eq] at h1
  omega
 rw [<- hl, <- allB_all]
 have h3 : ∀ x ∈ p, -1 <= x /\ x < (m.rooms.length : Int) := fun x hx => by
  have := h2 x hx
  rw [w64_small (by omega) (by omega), inB_iff] at this
  omega
 clear h1 h2 hl
 generalize m.rooms.length = rl at *
 induction p with
 | nil => simp [allB]
 | cons a p ih =>
  have ha := h3 a (by simp)
  have := ih fun x hx => h3 x (by simp [hx])
  simp only [List.length_cons, allB, List.mem_flatMap, List.mem_range, List.mem_map]
  exact ⟨(a + 1).toNat, by omega, p, this, by congr 1; omega⟩
def dutC (R : Nat) (p : List Int) : List Int := (List.range R).map fun r : Nat => ((p.count (r : Int) : Nat) : Int)
def fitF (s r : Int) : Bool := (r == -1) || hasB s r
def andN (a b : Int) : Int := IntKind.i64.wrap ((BitVec.ofInt 64 a &&& ~~~ BitVec.ofInt 64 b).toNat)
def tkF (s r : Int) : Int := if (r == -1) = true then s else andN s (bitI r)
def mny (s : Int) : Nat := (List.range 3).countP fun q : Nat => hasB s (q : Int)
theorem tk_all : ((List.range 8).all fun s => (List.range 3).all fun r => !hasB s r || ((andN s (bitI r) == (s : Int) - 2 ^ r) && decide (0 <= andN s (bitI r)) && decide (andN s (bitI r) < 8) && ((List.range 3).all fun q => hasB (andN s (bitI r)) q == (hasB s q && !Nat.beq q r)) && Nat.beq (mny s) (mny (andN s (bitI r)) + 1))) = true := by kernel_rfl
theorem mny_all : ((List.range 8).all fun s => (ocF s == ((mny s : Nat) : Int)) && (Nat.beq (mny s) 0 == ((s : Int) == 0)) && Nat.ble (mny s) 3) = true := by kernel_rfl
structure TkOk (s : Int) (r : Nat) : Prop where
 sub : andN s (bitI r) = s - 2 ^ r
 val : 0 <= andN s (bitI r) /\ andN s (bitI r) < 8
 has : ∀ q : Nat, q < 3 -> hasB (andN s (bitI r)) q = (hasB s q && !Nat.beq q r)
 many : mny s = mny (andN s (bitI r)) + 1
theorem tk_ok {s : Int} {r : Nat} (hs : 0 <= s /\ s < 8) (hr : r < 3) (h : hasB s r = true) : TkOk s r := by
 have hx := tk_all
 rw [List.all_eq_true] at hx
 have hx := hx s.toNat (List.mem_range.2 (by omega))
 rw [List.all_eq_true] at hx
 have hx := hx r (List.mem_range.2 hr)
 have e : ((s.toNat : Nat) : Int) = s := by omega
 rw [e, h] at hx
 simp only [Bool.not_true, Bool.false_or, Bool.and_eq_true, decide_eq_true_eq, List.all_eq_true, beq_iff_eq, Nat.beq_eq_true_eq] at hx
 obtain ⟨⟨⟨⟨h1, h2⟩, h3⟩, h4⟩, h5⟩ := hx
 exact ⟨h1, ⟨h2, h3⟩, fun q hq => h4 q (List.mem_range.2 hq), Nat.eq_of_beq_eq_true h5⟩
theorem mny_ok {s : Int} (hs : 0 <= s /\ s < 8) : ocF s = ((mny s : Nat) : Int) /\ (mny s = 0 ↔ s = 0) /\ mny s <= 3 := by
 have hx := mny_all
 rw [List.all_eq_true] at hx
 have hx := hx s.toNat (List.mem_range.2 (by omega))
 have e : ((s.toNat : Nat) : Int) = s := by omega
 rw [e] at hx
 simp only [Bool.and_eq_true, beq_iff_eq] at hx
 obtain ⟨⟨h1, h2⟩, h3⟩ := hx
 refine ⟨h1, ?_, Nat.le_of_ble_eq_true h3⟩
 constructor
 ·intro h
  rw [h] at h2
  have : (s == 0) = true := by rw [<- h2]; rfl
  simpa using this
 ·intro h
  have e2 : (s == 0) = true := by simp [h]
  rw [e2] at h2
  exact Nat.eq_of_beq_eq_true h2
def fitsP : List Int -> List Int -> Bool
 | s :: l, r :: p => fitF s r && fitsP l p
 | _, _ => true
def takeP : List Int -> List Int -> List Int
 | s :: l, r :: p => tkF s r :: takeP l p
 | l, _ => l
def SetsOk (l : List Int) : Prop := ∀ s ∈ l, 0 <= s /\ s < 8
theorem takeP_len : ∀ (l p : List Int), (takeP l p).length = l.length
 | [], _ => by cases ‹List Int› <;> rfl
 | s :: l, [] => rfl
 | s :: l, r :: p => by simp only [takeP, List.length_cons, takeP_len l p]
theorem take_ok : ∀ {l p : List Int}, SetsOk l -> PLt 3 p -> fitsP l p = true -> SetsOk (takeP l p)
 | [], p, h, hp, hf => by cases p <;> exact h
 | s :: l, [], h, hp, hf => h
 | s :: l, r :: p, h, hp, hf => by
  rw [fitsP, Bool.and_eq_true] at hf
  have hr := hp r (by simp)
  have hs := h s (by simp)
  intro x hx
  rw [takeP] at hx
  rcases List.mem_cons.1 hx with rfl | hx
  ·unfold tkF
   unfold fitF at hf
   by_cases e : (r == -1) = true
   ·rw [if_pos e]; exact hs
   ·rw [if_neg e]
    obtain ⟨rn, rfl⟩ : ∃ rn : Nat, r = rn := ⟨r.toNat, by simp only [beq_iff_eq] at e; omega⟩
    have h1 : hasB s rn = true := by simpa [e] using hf.1
    exact (tk_ok hs (by omega) h1).val
  ·exact take_ok (fun x hx => h x (by simp [hx])) (fun x hx => hp x (by simp [hx])) hf.2 x hx
def mxB (h : Nat) (l : List Int) : Prop := ∀ s ∈ l, mny s <= h
theorem fit_many {s r : Int} (hs : 0 <= s /\ s < 8) (hr : -1 <= r /\ r < 3) (hf : fitF s r = true) : mny s <= mny (tkF s r) + (if r = -1 then 0 else 1) := by
 unfold fitF at hf
 unfold tkF
 by_cases e : r = -1
 ·subst e
  simp
 ·have e2 : (r == -1) = false := by simpa using e
  rw [e2] at hf ⊢
  obtain ⟨rn, rfl⟩ : ∃ rn : Nat, r = rn := ⟨r.toNat, by omega⟩
  rw [if_neg (by simp), if_neg e, (tk_ok (r := rn) hs (by omega) (by simpa using hf)).many]
  exact Nat.le_refl _
theorem take_many : ∀ {l p : List Int} {h : Nat}, SetsOk l -> PLt 3 p -> fitsP l p = true -> l.length = p.length -> mxB h (takeP l p) -> mxB (h + 1) l /\ ((∀ r ∈ p, r = -1) -> mxB h l)
 | [], p, h, _, _, _, _, _ => by
  constructor
  ·intro s hs; cases hs
  ·intro _ s hs; cases hs
 | s :: l, [], h, _, _, _, hl, _ => by simp at hl
 | s :: l, r :: p, h, hs, hp, hf, hl, hm => by
  rw [fitsP, Bool.and_eq_true] at hf
  rw [takeP] at hm
  have h0 := fit_many (hs s (by simp)) (hp r (by simp)) hf.1
  have h1 := hm (tkF s r) (by simp)
  have ih := take_many (h := h) (fun x hx => hs x (by simp [hx])) (fun x hx => hp x (by simp [hx])) hf.2 (by simpa using hl) (fun x hx => hm x (by simp [hx]))
  refine ⟨fun x hx => ?_, fun hr x hx => ?_⟩
  ·rcases List.mem_cons.1 hx with rfl | hx
   ·split at h0 <;> omega
   ·exact ih.1 x hx
  ·rcases List.mem_cons.1 hx with rfl | hx
   ·rw [if_pos (hr r (by simp))] at h0; omega
   ·exact ih.2 (fun y hy => hr y (by simp [hy])) x hx
theorem fits_sub : ∀ {l p : List Int}, SetsOk l -> PLt 3 p -> fitsP l p = true -> ∀ x, PLt 3 x -> fitsP (takeP l p) x = true -> fitsP l x = true
 | [], p, _, _, _, x, _, h => by cases x <;> rfl
 | s :: l, [], _, _, _, x, _, h => h
 | s :: l, r :: p, hs, hp, hf, [], _, h => rfl
 | s :: l, r :: p, hs, hp, hf, y :: x, hx, h => by
  rw [fitsP, Bool.and_eq_true] at hf
  rw [takeP, fitsP, Bool.and_eq_true] at h
  rw [fitsP, Bool.and_eq_true]
  refine ⟨?_, fits_sub (fun z hz => hs z (by simp [hz])) (fun z hz => hp z (by simp [hz])) hf.2 x (fun z hz => hx z (by simp [hz])) h.2⟩
  have h1 := h.1
  have hr := hp r (by simp)
  have hy := hx y (by simp)
  unfold tkF at h1
  by_cases e : (r == -1) = true
  ·rw [if_pos e] at h1; exact h1
  ·rw [if_neg e] at h1
   obtain ⟨rn, rfl⟩ : ∃ rn : Nat, r = rn := ⟨r.toNat, by simp only [beq_iff_eq] at e; omega⟩
   have h2 : hasB s rn = true := by have := hf.1; unfold fitF at this; simpa [e] using this
   have hk := tk_ok (r := rn) (hs s (by simp)) (by omega) h2
   unfold fitF at h1 ⊢
   by_cases ey : (y == -1) = true
   ·rw [ey]; rfl
   ·obtain ⟨yn, rfl⟩ : ∃ yn : Nat, y = yn := ⟨y.toNat, by simp only [beq_iff_eq] at ey; omega⟩
    have h3 : hasB (andN s (bitI rn)) yn = true := by simpa [ey] using h1
    rw [hk.has yn (by omega), Bool.and_eq_true] at h3
    rw [h3.1, Bool.or_true]
section
variable (L : List (List Int)) (K : Nat -> List Int -> Bool) (C : List Int -> Nat)
def allR : Nat -> Nat -> List Int -> List (List (List Int))
 | 0, _, left => if (left.all fun s => s == 0) = true then [[]] else []
 | d + 1, i, left => (L.filter (K i)).flatMap fun p => if fitsP left p = true then (allR d (i + 1) (takeP left p)).map (p :: ·) else []
def costR : List (List Int) -> Nat
 | [] => 0
 | p :: q => C p + costR q
end
section
variable {L : List (List Int)} {K : Nat -> List Int -> Bool} {C : List Int -> Nat} {n : Nat}
theorem allR_succ (d i : Nat) (left : List Int) : allR L K (d + 1) i left = (L.filter (K i)).flatMap fun p => if fitsP left p = true then (allR L K d (i + 1) (takeP left p)).map (p :: ·) else [] := rfl
theorem allR_len : ∀ {d i : Nat} {left : List Int} {q : List (List Int)}, q ∈ allR L K d i left -> q.length = d
 | 0, i, left, q, h => by
  rw [allR] at h
  split at h
  ·simp at h; rw [h]; rfl
  ·cases h
 | d + 1, i, left, q, h => by
  rw [allR_succ, List.mem_flatMap] at h
  obtain ⟨p, _, h⟩ := h
  split at h
  ·obtain ⟨t, ht, rfl⟩ := List.mem_map.1 h
   rw [List.length_cons, allR_len ht]
  ·cases h
theorem allR_many (hL : ∀ p ∈ L, p.length = n /\ PLt 3 p) (hC : ∀ p ∈ L, C p <= 1 /\ (C p = 0 -> ∀ r ∈ p, r = -1)) : ∀ {d i : Nat} {left : List Int} {q : List (List Int)}, SetsOk left -> left.length = n -> q ∈ allR L K d i left -> mxB (costR C q) left /\ costR C q <= d
 | 0, i, left, q, hs, hn, h => by
  rw [allR] at h
  split at h
  ·rename_i h0
   simp only [List.mem_singleton] at h
   subst h
   refine ⟨fun s hs' => ?_, Nat.le_refl _⟩
   rw [List.all_eq_true] at h0
   have e : s = 0 := by simpa using h0 s hs'
   have := (mny_ok (hs s hs')).2.1.2 e
   omega
  ·cases h
 | d + 1, i, left, q, hs, hn, h => by
  rw [allR_succ, List.mem_flatMap] at h
  obtain ⟨p, hp, h⟩ := h
  split at h
  ·rename_i hf
   obtain ⟨t, ht, rfl⟩ := List.mem_map.1 h
   have hpL := (List.mem_filter.1 hp).1
   obtain ⟨p1, p2⟩ := hL p hpL
   obtain ⟨c1, c2⟩ := hC p hpL
   have ih := allR_many hL hC (take_ok hs p2 hf) (by rw [takeP_len]; exact hn) ht
   have hm := take_many hs p2 hf (by omega) ih.1
   rw [costR]
   refine ⟨fun s hs' => ?_, by omega⟩
   rcases Nat.eq_zero_or_pos (C p) with e | e
   ·have := hm.2 (c2 e) s hs'; omega
   ·have := hm.1 s hs'; omega
  ·cases h
variable (O : Nat -> List (List Int))
def goP : Nat -> Nat -> List (List Int) -> List Int -> Nat -> Option (List (List Int)) × Nat -> Option (List (List Int)) × Nat
 | 0, _, now, left, hands, st => if (decide (hands >= st.2) || left.any fun s => decide (ocF s > ((0 : Nat) : Int))) = true then st else if (left.any fun s => s != 0) = true then st else (some now, hands)
 | d + 1, i, now, left, hands, st => if (decide (hands >= st.2) || left.any fun s => decide (ocF s > ((d + 1 : Nat) : Int))) = true then st else (O i).foldl (fun st p => if fitsP left p = true then goP d (i + 1) (now ++ [p]) (takeP left p) (hands + C p) st else st) st
def btr (st : Option (List (List Int)) × Nat) (x : List (List Int) × Nat) : Option (List (List Int)) × Nat := if x.2 < st.2 then (some x.1, x.2) else st
variable {O}
theorem btr_stay : ∀ (l : List (List (List Int) × Nat)) (st : Option (List (List Int)) × Nat), (∀ x ∈ l, st.2 <= x.2) -> l.foldl btr st = st
 | [], st, _ => rfl
 | x :: l, st, h => by
  rw [List.foldl_cons]
  have : btr st x = st := by
   unfold btr
   rw [if_neg (by have := h x (by simp); omega)]
  rw [this]
  exact btr_stay l st fun y hy => h y (by simp [hy])
theorem any_gt {left : List Int} {d : Nat} (hs : SetsOk left) : (left.any fun s => decide (ocF s > ((d : Nat) : Int))) = true -> ¬ mxB d left := by
 intro h hm
 rw [List.any_eq_true] at h
 obtain ⟨s, h1, h2⟩ := h
 have := (mny_ok (hs s h1)).1
 have h3 := hm s h1
 simp only [decide_eq_true_eq] at h2
 omega
theorem any_ne : ∀ left : List Int, (left.any fun s => s != 0) = !(left.all fun s => s == 0)
 | [] => rfl
 | a :: l => by simp only [List.any_cons, List.all_cons, Bool.not_and, bne]; rw [<- any_ne l]; rfl
theorem flat_if {α β : Type} (q : α -> Bool) (f : α -> List β) : ∀ l : List α, (l.filter q).flatMap f = l.flatMap fun x => if q x = true then f x else []
 | [] => rfl
 | a :: l => by
  rw [List.filter_cons, List.flatMap_cons]
  cases h : q a with
  | true => rw [if_pos rfl, List.flatMap_cons, flat_if q f l]; rfl
  | false => rw [if_neg (by simp), flat_if q f l]; rfl
theorem goP_law {op : List Int} (hL : ∀ p ∈ L, p.length = n /\ PLt 3 p) (hC : ∀ p ∈ L, C p <= 1 /\ (C p = 0 -> ∀ r ∈ p, r = -1)) (hO : ∀ i, O i = (L.filter fun p => fitsP op p).filter (K i)) :
  ∀ {d i : Nat} {now : List (List Int)} {left : List Int} {hands : Nat} {st : Option (List (List Int)) × Nat}, SetsOk left -> left.length = n -> (∀ p, PLt 3 p -> fitsP left p = true -> fitsP op p = true) ->
  goP (C := C) (O := O) d i now left hands st = ((allR L K d i left).map fun q => (now ++ q, hands + costR C q)).foldl btr st
 | 0, i, now, left, hands, st, hs, hn, hsub => by
  rw [goP, allR]
  by_cases h1 : (decide (hands >= st.2) || left.any fun s => decide (ocF s > ((0 : Nat) : Int))) = true
  ·rw [if_pos h1]
   rw [Bool.or_eq_true] at h1
   split
   ·rename_i h0
    rcases h1 with h1 | h1
    ·simp only [List.map_cons, List.map_nil, costR, Nat.add_zero, List.append_nil, List.foldl_cons, List.foldl_nil, btr]
     rw [if_neg (by simp only [decide_eq_true_eq] at h1; omega)]
    ·exfalso
     refine any_gt hs h1 fun s hs' => ?_
     rw [List.all_eq_true] at h0
     have e : s = 0 := by simpa using h0 s hs'
     have := (mny_ok (hs s hs')).2.1.2 e
     omega
   ·rfl
  ·rw [if_neg h1]
   have e := any_ne left
   rw [e]
   cases h0 : (left.all fun s => s == 0) with
   | true =>
    have : hands < st.2 := by
     rw [Bool.or_eq_true, not_or] at h1
     have := h1.1
     simp only [decide_eq_true_eq] at this
     omega
    simp [costR, btr, this]
   | false => simp
 | d + 1, i, now, left, hands, st, hs, hn, hsub => by
  rw [goP]
  by_cases h1 : (decide (hands >= st.2) || left.any fun s => decide (ocF s > ((d + 1 : Nat) : Int))) = true
  ·rw [if_pos h1]
   rw [Bool.or_eq_true] at h1
   symm
   apply btr_stay
   intro x hx
   obtain ⟨q, hq, rfl⟩ := List.mem_map.1 hx
   rcases h1 with h1 | h1
   ·simp only [decide_eq_true_eq] at h1
    simp only
    omega
   ·exfalso
    have h2 := allR_many hL hC hs hn hq
    exact any_gt hs h1 fun s hs' => Nat.le_trans (h2.1 s hs') h2.2
  ·rw [if_neg h1, hO i, allR_succ, flat_if]
   have key : ∀ (l : List (List Int)) (st : Option (List (List Int)) × Nat), (∀ p ∈ l, p ∈ L) -> ((l.filter fun p => fitsP op p).filter (K i)).foldl (fun st p => if fitsP left p = true then goP (C := C) (O := O) d (i + 1) (now ++ [p]) (takeP left p) (hands + C p) st else st) st = ((l.flatMap fun p => if K i p = true then (if fitsP left p = true then (allR L K d (i + 1) (takeP left p)).map (p :: ·) else []) else []).map fun q => (now ++ q, hands + costR C q)).foldl btr st := by
    intro l
    induction l with
    | nil => intro st _; rfl
    | cons p l ih =>
     intro st hl
     have ihh := fun st => ih st fun x hx => hl x (by simp [hx])
     obtain ⟨p1, p2⟩ := hL p (hl p (by simp))
     rw [List.flatMap_cons, List.map_append, List.foldl_append, <- ihh, List.filter_cons]
     cases hf : fitsP left p with
     | false => cases hop : fitsP op p <;> cases hk : K i p <;> simp only [hf, hop, hk, if_true, if_false, Bool.false_eq_true, List.filter_cons, List.foldl_cons, List.map_nil, List.foldl_nil]
     | true =>
      have hop := hsub p p2 hf
      cases hk : K i p with
      | false => simp only [hf, hop, hk, if_true, if_false, Bool.false_eq_true, List.filter_cons, List.foldl_cons, List.map_nil, List.foldl_nil]
      | true =>
       simp only [hf, hop, hk, if_true, List.filter_cons, List.foldl_cons]
       congr 1
       rw [goP_law hL hC hO (take_ok hs p2 hf) (by rw [takeP_len]; exact hn) (fun x hx hfx => hsub x hx (fits_sub hs p2 hf x hx hfx))]
       rw [List.map_map]
       congr 1
       apply List.map_congr_left
       intro q _
       simp [costR, Nat.add_assoc]
   exact key L st fun p hp => hp
variable (L K C)
def srR : Nat -> Nat -> List (List Int) -> List Int -> Nat -> Option (List (List Int))
 | 0, _, taken, left, h => if (left.any fun s => decide (((mny s : Nat) : Int) > ((min h 0 : Nat) : Int))) = true then none else some taken
 | d + 1, i, taken, left, h => if (left.any fun s => decide (((mny s : Nat) : Int) > ((min h (d + 1) : Nat) : Int))) = true then none else L.findSome? fun p => if ((decide (0 < C p) && Nat.beq h 0) || !K i p || !fitsP left p) = true then none else srR d (i + 1) (taken ++ [p]) (takeP left p) (h - C p)
variable {L K C}
theorem head_map {α β : Type} (f : α -> β) (q : β -> Bool) : ∀ l : List α, ((l.map f).filter q).head? = ((l.filter fun x => q (f x)).head?).map f
 | [] => rfl
 | a :: l => by
  rw [List.map_cons, List.filter_cons, List.filter_cons]
  split
  ·rfl
  ·exact head_map f q l
theorem srR_law (hL : ∀ p ∈ L, p.length = n /\ PLt 3 p) (hC : ∀ p ∈ L, C p <= 1 /\ (C p = 0 -> ∀ r ∈ p, r = -1)) :
  ∀ {d i : Nat} {taken : List (List Int)} {left : List Int} {h : Nat}, SetsOk left -> left.length = n ->
  srR L K C d i taken left h = (((allR L K d i left).filter fun q => decide (costR C q <= h)).head?).map (taken ++ ·)
 | 0, i, taken, left, h, hs, hn => by
  rw [srR, allR]
  have e : (left.any fun s => decide (((mny s : Nat) : Int) > ((min h 0 : Nat) : Int))) = !(left.all fun s => s == 0) := by
   rw [<- any_ne]
   rw [Bool.eq_iff_iff, List.any_eq_true, List.any_eq_true]
   constructor
   ·rintro ⟨s, h1, h2⟩
    refine ⟨s, h1, ?_⟩
    have := (mny_ok (hs s h1)).2.1
    simp only [decide_eq_true_eq, Nat.min_zero] at h2
    simp only [bne_iff_ne, ne_eq]
    intro e
    have := this.2 e
    omega
   ·rintro ⟨s, h1, h2⟩
    refine ⟨s, h1, ?_⟩
    have := (mny_ok (hs s h1)).2.1
    simp only [bne_iff_ne, ne_eq] at h2
    simp only [decide_eq_true_eq, Nat.min_zero]
    have : mny s ≠ 0 := fun e => h2 (this.1 e)
    omega
  rw [e]
  cases h0 : (left.all fun s => s == 0) with
  | true => simp [costR]
  | false => simp
 | d + 1, i, taken, left, h, hs, hn => by
  rw [srR]
  by_cases h1 : (left.any fun s => decide (((mny s : Nat) : Int) > ((min h (d + 1) : Nat) : Int))) = true
  ·rw [if_pos h1]
   have : ((allR L K (d + 1) i left).filter fun q => decide (costR C q <= h)) = [] := by
    rw [List.filter_eq_nil_iff]
    intro q hq hc
    simp only [decide_eq_true_eq] at hc
    have h2 := allR_many hL hC hs hn hq
    rw [List.any_eq_true] at h1
    obtain ⟨s, h3, h4⟩ := h1
    have := h2.1 s h3
    simp only [decide_eq_true_eq] at h4
    omega
   rw [this]
   rfl
  ·rw [if_neg h1, allR_succ, flat_if]
   have key : ∀ (l : List (List Int)), (∀ p ∈ l, p ∈ L) -> (l.findSome? fun p => if ((decide (0 < C p) && Nat.beq h 0) || !K i p || !fitsP left p) = true then none else srR L K C d (i + 1) (taken ++ [p]) (takeP left p) (h - C p)) = ((((l.flatMap fun p => if K i p = true then (if fitsP left p = true then (allR L K d (i + 1) (takeP left p)).map (p :: ·) else []) else [])).filter fun q => decide (costR C q <= h)).head?).map (taken ++ ·) := by
    intro l
    induction l with
    | nil => intro _; rfl
    | cons p l ih =>
     intro hl
     have ihh := ih fun x hx => hl x (by simp [hx])
     obtain ⟨p1, p2⟩ := hL p (hl p (by simp))
     obtain ⟨c1, c2⟩ := hC p (hl p (by simp))
     rw [List.findSome?_cons, List.flatMap_cons, List.filter_append, List.head?_append, ihh]
     cases hk : K i p with
     | false => simp
     | true =>
      cases hf : fitsP left p with
      | false => simp
      | true =>
       rw [if_pos rfl, if_pos rfl, head_map]
       cases hz : (decide (0 < C p) && Nat.beq h 0) with
       | true =>
        have e0 : ((allR L K d (i + 1) (takeP left p)).filter fun x => decide (costR C (p :: x) <= h)) = [] := by
         rw [List.filter_eq_nil_iff]
         intro q _ hc
         rw [Bool.and_eq_true] at hz
         have z1 : 0 < C p := by simpa using hz.1
         have z2 : h = 0 := Nat.eq_of_beq_eq_true hz.2
         have z3 : C p + costR C q <= h := of_decide_eq_true hc
         exact absurd z3 (by rw [z2]; exact Nat.not_le_of_gt (Nat.lt_of_lt_of_le z1 (Nat.le_add_right _ _)))
        rw [e0]
        simp
       | false =>
        have hch : C p <= h := by
         rcases Nat.eq_zero_or_pos (C p) with e | e
         ·omega
         ·have : decide (0 < C p) = true := by simpa using e
          rw [this, Bool.true_and] at hz
          have : h ≠ 0 := fun e0 => by rw [e0] at hz; cases hz
          omega
        have e1 : ((allR L K d (i + 1) (takeP left p)).filter fun x => decide (costR C (p :: x) <= h)) = (allR L K d (i + 1) (takeP left p)).filter fun x => decide (costR C x <= h - C p) := by
         congr 1
         funext x
         rw [decide_eq_decide, costR]
         omega
        rw [e1]
        simp only [Bool.not_true, Bool.or_self, Bool.false_eq_true, if_false]
        rw [srR_law hL hC (take_ok hs p2 hf) (by rw [takeP_len]; exact hn)]
        cases ((allR L K d (i + 1) (takeP left p)).filter fun x => decide (costR C x <= h - C p)).head? with
        | none => rfl
        | some q => simp
   exact key L fun p hp => hp
theorem fold_first : ∀ (A : List (List (List Int))) (st : Option (List (List Int)) × Nat), ((A.map fun q => (q, costR C q)).foldl btr st = st /\ ∀ q ∈ A, st.2 <= costR C q) \/ ∃ x l1 l2, A = l1 ++ x :: l2 /\ (A.map fun q => (q, costR C q)).foldl btr st = (some x, costR C x) /\ costR C x < st.2 /\ (∀ y ∈ l1, costR C x < costR C y) /\ ∀ y ∈ l2, costR C x <= costR C y
 | [], st => .inl ⟨rfl, fun q hq => by cases hq⟩
 | a :: A, st => by
  rw [List.map_cons, List.foldl_cons]
  by_cases h : costR C a < st.2
  ·have e : btr st (a, costR C a) = (some a, costR C a) := by unfold btr; rw [if_pos h]
   rw [e]
   rcases fold_first A (some a, costR C a) with ⟨h1, h2⟩ | ⟨x, l1, l2, h1, h2, h3, h4, h5⟩
   ·exact .inr ⟨a, [], A, rfl, h1, h, fun y hy => (by cases hy), h2⟩
   ·refine .inr ⟨x, a :: l1, l2, by rw [h1]; rfl, h2, by simp only at h3; omega, fun y hy => ?_, h5⟩
    rcases List.mem_cons.1 hy with rfl | hy
    ·exact h3
    ·exact h4 y hy
  ·have e : btr st (a, costR C a) = st := by unfold btr; rw [if_neg h]
   rw [e]
   rcases fold_first A st with ⟨h1, h2⟩ | ⟨x, l1, l2, h1, h2, h3, h4, h5⟩
   ·refine .inl ⟨h1, fun q hq => ?_⟩
    rcases List.mem_cons.1 hq with rfl | hq
    ·omega
    ·exact h2 q hq
   ·refine .inr ⟨x, a :: l1, l2, by rw [h1]; rfl, h2, h3, fun y hy => ?_, h5⟩
    rcases List.mem_cons.1 hy with rfl | hy
    ·omega
    ·exact h4 y hy
theorem range_first {α : Type} {f : Nat -> Option α} {v : α} : ∀ {N k : Nat}, k < N -> f k = some v -> (∀ j, j < k -> f j = none) -> (List.range N).findSome? f = some v
 | 0, k, h, _, _ => by omega
 | N + 1, k, h, h1, h2 => by
  rw [List.range_succ, List.findSome?_append]
  by_cases e : k < N
  ·rw [range_first e h1 h2]
   rfl
  ·obtain rfl : k = N := by omega
   have : (List.range k).findSome? f = none := by
    rw [List.findSome?_eq_none_iff]
    intro j hj
    exact h2 j (List.mem_range.1 hj)
   rw [this]
   simp [h1]
variable (L K C) in
def bestRo (H : Nat) (op : List Int) : Option (List (List Int)) := (List.range (H + 1)).findSome? fun h => srR L K C H 0 [] op h
theorem best_law {op : List Int} {H : Nat} (hL : ∀ p ∈ L, p.length = n /\ PLt 3 p) (hC : ∀ p ∈ L, C p <= 1 /\ (C p = 0 -> ∀ r ∈ p, r = -1)) (hO : ∀ i, O i = (L.filter fun p => fitsP op p).filter (K i)) (hs : SetsOk op) (hn : op.length = n) :
  (bestRo L K C H op = none /\ goP (C := C) (O := O) H 0 [] op 0 (none, H + 1) = (none, H + 1) /\ allR L K H 0 op = []) \/
  ∃ x l1 l2, bestRo L K C H op = some x /\ goP (C := C) (O := O) H 0 [] op 0 (none, H + 1) = (some x, costR C x) /\ allR L K H 0 op = l1 ++ x :: l2 /\ (∀ y ∈ l1, costR C x < costR C y) /\ ∀ y ∈ l2, costR C x <= costR C y := by
 have e1 := goP_law (d := H) (i := 0) (now := []) (hands := 0) (st := (none, H + 1)) hL hC hO hs hn (fun _ _ h => h)
 have e2 := fun h => srR_law (K := K) (d := H) (i := 0) (taken := []) (h := h) hL hC hs hn
 simp only [List.nil_append, Nat.zero_add] at e1 e2
 have hc := fun q hq => (allR_many (K := K) (d := H) (i := 0) (q := q) hL hC hs hn hq).2
 rcases fold_first (C := C) (allR L K H 0 op) (none, H + 1) with ⟨h1, h2⟩ | ⟨x, l1, l2, h1, h2, h3, h4, h5⟩
 ·left
  have hA : allR L K H 0 op = [] := by
   cases hq : allR L K H 0 op with
   | nil => rfl
   | cons a A =>
    have h3 := h2 a (by rw [hq]; simp)
    have := hc a (by rw [hq]; simp)
    simp only at h3
    omega
  refine ⟨?_, e1.trans h1, hA⟩
  unfold bestRo
  rw [List.findSome?_eq_none_iff]
  intro h _
  rw [e2, hA]
  rfl
 ·right
  have hx : x ∈ allR L K H 0 op := by rw [h1]; simp
  have hcx := hc x hx
  refine ⟨x, l1, l2, ?_, e1.trans h2, h1, h4, h5⟩
  unfold bestRo
  refine range_first (k := costR C x) (by omega) ?_ fun j hj => ?_
  ·rw [e2, h1, List.filter_append, List.filter_cons, if_pos (by simp)]
   have : (l1.filter fun q => decide (costR C q <= costR C x)) = [] := by
    rw [List.filter_eq_nil_iff]
    intro y hy h6
    have := h4 y hy
    simp only [decide_eq_true_eq] at h6
    omega
   rw [this]
   simp
  ·rw [e2, h1]
   have : ((l1 ++ x :: l2).filter fun q => decide (costR C q <= j)) = [] := by
    rw [List.filter_eq_nil_iff]
    intro y hy h6
    simp only [decide_eq_true_eq] at h6
    rcases List.mem_append.1 hy with g | g
    ·have := h4 y g; omega
    ·rcases List.mem_cons.1 g with g | g
     ·subst g; omega
     ·have := h5 y g; omega
   rw [this]
   rfl
end
end Go.AM
