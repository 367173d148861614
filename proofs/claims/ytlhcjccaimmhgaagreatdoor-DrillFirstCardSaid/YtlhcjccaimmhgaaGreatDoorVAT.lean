/-
  A part of the proof: contracts of functions.
-/
import Derived.Test.YtlhcjccaimmhgaaGreatDoorVAS
import Derived.Test.YtlhcjccaimmhgaaGreatDoorVAP
import Derived.Test.YtlhcjccaimmhgaaGreatDoorVAN
import Derived.Test.YtlhcjccaimmhgaaGreatDoorVAQ
set_option linter.unusedSimpArgs false
set_option linter.unusedVariables false
set_option linter.unusedSectionVars false
namespace Go.AM
open Go
variable [Keep]
theorem allS_sub (b : Int) : ∀ (L : List Lim) (s : Sp), s.lo <= (allS b L s).lo /\ (allS b L s).hi <= s.hi := by
 intro L
 induction L with
 | nil => intro s; exact ⟨Int.le_refl _, Int.le_refl _⟩
 | cons m r ih =>
  intro s
  simp only [allS]
  split
  ·have := ih (interS s m.sp)
   simp only [interS_lo, interS_hi] at this
   omega
  ·exact ih s
theorem allS_lim (b : Int) : ∀ (L : List Lim) (s : Sp), ∀ m ∈ L, m.b = b -> m.lo <= (allS b L s).lo /\ (allS b L s).hi <= m.hi := by
 intro L
 induction L with
 | nil => intro s m h; simp at h
 | cons x r ih =>
  intro s m hm hb
  simp only [allS]
  rcases List.mem_cons.1 hm with rfl | hm
  ·rw [if_pos (by simpa using hb)]
   have := allS_sub b r (interS s m.sp)
   simp only [interS_lo, interS_hi, Lim.sp] at this
   simp only [Lim.sp]
   omega
  ·split
   ·exact ih _ m hm hb
   ·exact ih _ m hm hb
theorem on_lim (ax : Ax) (k : Nat) : ∀ m ∈ ax.limits, m.b = (k : Int) -> m.lo <= (onS ax k).lo /\ (onS ax k).hi <= m.hi := by
 intro m hm hb
 cases k with
 | zero => exact allS_lim _ _ _ m hm hb
 | succ k => exact allS_lim _ _ _ m hm hb
theorem back_eq (ax : Ax) : ∀ (n : Nat) (out : List Sp), n < out.length -> ∀ j, j < n -> (backS ax n out).getD j ⟨0, 0⟩ = interS (out.getD j ⟨0, 0⟩) (prvS ax ((backS ax n out).getD (j + 1) ⟨0, 0⟩)) := by
 intro n
 induction n with
 | zero => intro out _ j hj; omega
 | succ n ih =>
  intro out hn j hj
  simp only [backS]
  by_cases hjn : j < n
  ·rw [ih _ (by simp; omega) j hjn, getD_set_ne (by omega)]
  ·obtain rfl : j = n := by omega
   rw [back_keep _ _ _ _ (Nat.le_refl _), back_keep _ _ _ _ (by omega), getD_set_same (by omega), getD_set_ne (by omega)]
theorem any_not {l : List Sp} (h : l.any empS = false) {j : Nat} (hj : j < l.length) : (l.getD j ⟨0, 0⟩).lo <= (l.getD j ⟨0, 0⟩).hi := by
 have := List.any_eq_false.1 h l[j] (List.getElem_mem hj)
 simp only [empS, decide_eq_true_eq] at this
 simp [List.getD, hj]
 omega
structure Bnd (c w : Sp) (L : List Lim) (t : List Sp) : Prop where
 len : t.length = 13
 ne : ∀ j, j <= 12 -> (t.getD j ⟨0, 0⟩).lo <= (t.getD j ⟨0, 0⟩).hi
 sub : ∀ j, j <= 12 -> (onS ⟨c, w, L⟩ j).lo <= (t.getD j ⟨0, 0⟩).lo /\ (t.getD j ⟨0, 0⟩).hi <= (onS ⟨c, w, L⟩ j).hi
 small : ∀ j, j <= 12 -> -48 <= (t.getD j ⟨0, 0⟩).lo /\ (t.getD j ⟨0, 0⟩).hi <= 48
 lo : ∀ j, j < 12 -> (t.getD j ⟨0, 0⟩).lo = max (onS ⟨c, w, L⟩ j).lo ((t.getD (j + 1) ⟨0, 0⟩).lo - w.hi)
 hi : ∀ j, j < 12 -> (t.getD j ⟨0, 0⟩).hi = min (onS ⟨c, w, L⟩ j).hi ((t.getD (j + 1) ⟨0, 0⟩).hi - w.lo)
theorem bnd_of {c w : Sp} {L : List Lim} (g : Good c w L) {t : List Sp} (ht : boundsS ⟨c, w, L⟩ = some t) : Bnd c w L t := by
 rw [bounds_good g] at ht
 unfold refS at ht
 split at ht
 ·cases ht
 rename_i hne
 have hne : (backS ⟨c, w, L⟩ 12 ((List.range 13).map (onS ⟨c, w, L⟩))).any empS = false := by simpa using hne
 have ht := Option.some.inj ht
 have w1 := g.w1
 have w2 := g.w2
 have w3 := g.w3
 have hlen : t.length = 13 := by rw [<- ht, back_len]; simp
 rw [ht] at hne
 have nep : ∀ j, j <= 12 -> (t.getD j ⟨0, 0⟩).lo <= (t.getD j ⟨0, 0⟩).hi := fun j hj => any_not hne (by omega)
 have heq : ∀ j, j < 12 -> t.getD j ⟨0, 0⟩ = interS (onS ⟨c, w, L⟩ j) (prvS ⟨c, w, L⟩ (t.getD (j + 1) ⟨0, 0⟩)) := fun j hj => by
  have := back_eq ⟨c, w, L⟩ 12 ((List.range 13).map (onS ⟨c, w, L⟩)) (by simp) j hj
  rw [ht, on_list _ (by omega)] at this
  exact this
 have hlast : t.getD 12 ⟨0, 0⟩ = onS ⟨c, w, L⟩ 12 := by
  have := back_keep ⟨c, w, L⟩ 12 ((List.range 13).map (onS ⟨c, w, L⟩)) 12 (Nat.le_refl _)
  rw [ht, on_list _ (by omega)] at this
  exact this
 have sub : ∀ j, j <= 12 -> (onS ⟨c, w, L⟩ j).lo <= (t.getD j ⟨0, 0⟩).lo /\ (t.getD j ⟨0, 0⟩).hi <= (onS ⟨c, w, L⟩ j).hi := fun j hj => by
  rcases Nat.lt_or_ge j 12 with q | q
  ·rw [heq j q]
   simp only [interS_lo, interS_hi]
   omega
  ·obtain rfl : j = 12 := by omega
   rw [hlast]
   omega
 have small : ∀ j, j <= 12 -> -48 <= (t.getD j ⟨0, 0⟩).lo /\ (t.getD j ⟨0, 0⟩).hi <= 48 := fun j hj => by
  have := on_bd g j (by omega)
  have := sub j hj
  omega
 have prv : ∀ j, j < 12 -> (prvS ⟨c, w, L⟩ (t.getD (j + 1) ⟨0, 0⟩)).lo = (t.getD (j + 1) ⟨0, 0⟩).lo - w.hi /\ (prvS ⟨c, w, L⟩ (t.getD (j + 1) ⟨0, 0⟩)).hi = (t.getD (j + 1) ⟨0, 0⟩).hi - w.lo := fun j hj => by
  have q := small (j + 1) (by omega)
  have e := nep (j + 1) (by omega)
  generalize t.getD (j + 1) ⟨0, 0⟩ = s at *
  exact ⟨wrap_small (show -4611686018427387904 <= s.lo - w.hi by omega) (show s.lo - w.hi <= 4611686018427387904 by omega), wrap_small (show -4611686018427387904 <= s.hi - w.lo by omega) (show s.hi - w.lo <= 4611686018427387904 by omega)⟩
 refine ⟨hlen, nep, sub, small, fun j hj => ?_, fun j hj => ?_⟩
 ·rw [congrArg Sp.lo (heq j hj), interS_lo, (prv j hj).1]
 ·rw [congrArg Sp.hi (heq j hj), interS_hi, (prv j hj).2]
def endsL (e : Sp -> Int) (t : List Sp) : List Int := (List.range 13).map fun j => e (t.getD j ⟨0, 0⟩)
theorem ends_get (e : Sp -> Int) (t : List Sp) {j : Nat} (hj : j < 13) : (endsL e t).getD j 0 = e (t.getD j ⟨0, 0⟩) := by
 simp [endsL, List.getD, hj]
theorem on_nxt {c w : Sp} {L : List Lim} (g : Good c w L) {j : Nat} (hj : j < 12) : (onS ⟨c, w, L⟩ j).lo + w.lo <= (onS ⟨c, w, L⟩ (j + 1)).lo /\ (onS ⟨c, w, L⟩ (j + 1)).hi <= (onS ⟨c, w, L⟩ j).hi + w.hi := by
 have h1 := allS_sub ((j + 1 : Nat) : Int) L (nxtS ⟨c, w, L⟩ (onS ⟨c, w, L⟩ j))
 obtain ⟨e1, e2⟩ := nxt_small g (by omega) (by omega) (on_bd g j (by omega))
 rw [e1, e2] at h1
 exact h1
theorem ends_fit {c w : Sp} {L : List Lim} (g : Good c w L) (hL : ∀ m ∈ L, 0 <= m.b /\ m.b <= 12) {t : List Sp} (b : Bnd c w L t) (e : Sp -> Int) (he : (∀ s, e s = s.lo) \/ (∀ s, e s = s.hi)) : fitsA ⟨c, w, L⟩ (endsL e t) = true := by
 have w1 := g.w1
 have w2 := g.w2
 have w3 := g.w3
 have val : ∀ j, j <= 12 -> (t.getD j ⟨0, 0⟩).lo <= e (t.getD j ⟨0, 0⟩) /\ e (t.getD j ⟨0, 0⟩) <= (t.getD j ⟨0, 0⟩).hi := fun j hj => by
  have := b.ne j hj
  rcases he with he | he <;> rw [he] <;> omega
 simp only [fitsA, Bool.and_eq_true]
 refine ⟨?_, List.all_eq_true.2 fun k hk => ?_, List.all_eq_true.2 fun m hm => ?_⟩
 ·rw [ends_get e t (by omega)]
  have h1 := val 0 (by omega)
  have h2 := b.sub 0 (by omega)
  have h3 := allS_sub 0 L c
  have h4 : onS ⟨c, w, L⟩ 0 = allS 0 L c := rfl
  rw [h4] at h2
  simp only [inB, Bool.and_eq_true, decide_eq_true_eq]
  omega
 ·have hk : k < 12 := by simpa using hk
  simp only [stepB]
  rw [ends_get e t (by omega), ends_get e t (by omega)]
  have h1 := b.small k (by omega)
  have h2 := b.small (k + 1) (by omega)
  have h3 := val k (by omega)
  have h4 := val (k + 1) (by omega)
  have h5 := b.lo k hk
  have h6 := b.hi k hk
  have h7 := b.sub (k + 1) (by omega)
  have h8 := on_nxt g hk
  have hw : w64 (e (t.getD (k + 1) ⟨0, 0⟩) - e (t.getD k ⟨0, 0⟩)) = e (t.getD (k + 1) ⟨0, 0⟩) - e (t.getD k ⟨0, 0⟩) := wrap_small (by omega) (by omega)
  rw [hw]
  simp only [inB, Bool.and_eq_true, decide_eq_true_eq]
  rcases he with he | he <;> simp only [he] at * <;> omega
 ·have hb := hL m hm
  have hm2 : m.b = (m.b.toNat : Int) := by omega
  have h1 := on_lim ⟨c, w, L⟩ m.b.toNat m hm hm2
  simp only [inL]
  rw [ends_get e t (by omega)]
  have h2 := val m.b.toNat (by omega)
  have h3 := b.sub m.b.toNat (by omega)
  simp only [inB, Bool.and_eq_true, decide_eq_true_eq]
  omega
end Go.AM
namespace Go.AM
open Go
variable [Keep]
theorem lexB_self : ∀ a : List Nat, lexB a a = false := by
 intro a
 induction a with
 | nil => rfl
 | cons x a ih => simp [lexB, ih]
theorem lexB_anti : ∀ {a b : List Nat}, lexB a b = false -> lexB b a = false -> a = b := by
 intro a
 induction a with
 | nil =>
  intro b h _
  cases b with
  | nil => rfl
  | cons y b => simp [lexB] at h
 | cons x a ih =>
  intro b h k
  cases b with
  | nil => simp [lexB] at k
  | cons y b =>
   simp only [lexB] at h k
   by_cases e : x = y
   ·subst e
    rw [if_pos rfl] at h k
    rw [ih h k]
   ·rw [if_neg e] at h
    rw [if_neg (fun q => e q.symm)] at k
    simp only [decide_eq_false_iff_not] at h k
    omega
theorem lexB_tr : ∀ {a b d : List Nat}, lexB a b = true -> lexB d b = false -> lexB d a = false := by
 intro a
 induction a with
 | nil =>
  intro b d h k
  cases b with
  | nil => simp [lexB] at h
  | cons y b =>
   cases d with
   | nil => simp [lexB] at k
   | cons z d => rfl
 | cons x a ih =>
  intro b d h k
  cases b with
  | nil => simp [lexB] at h
  | cons y b =>
   cases d with
   | nil => simp [lexB] at k
   | cons z d =>
    simp only [lexB] at h k ⊢
    by_cases e : x = y
    ·subst e
     rw [if_pos rfl] at h
     by_cases e2 : z = x
     ·subst e2
      rw [if_pos rfl] at k ⊢
      exact ih h k
     ·rw [if_neg e2] at k ⊢; exact k
    ·rw [if_neg e] at h
     simp only [decide_eq_true_eq] at h
     by_cases e2 : z = y
     ·subst e2
      rw [if_neg (fun q => e q.symm)]
      simp; omega
     ·rw [if_neg e2] at k
      simp only [decide_eq_false_iff_not] at k
      rw [if_neg (by omega)]
      simp; omega
def minT (l : List (List Nat)) : Option (List Nat) := l.foldl (fun acc x => match acc with | none => some x | some b => if lexB x b then some x else some b) none
theorem minT_go : ∀ (l : List (List Nat)) (s : List Nat), ∃ b, l.foldl (fun acc x => match acc with | none => some x | some b => if lexB x b then some x else some b) (some s) = some b /\ (b = s \/ b ∈ l) /\ lexB s b = false /\ ∀ x ∈ l, lexB x b = false := by
 intro l
 induction l with
 | nil => intro s; exact ⟨s, rfl, .inl rfl, lexB_self s, by simp⟩
 | cons x r ih =>
  intro s
  rw [List.foldl_cons]
  cases h : lexB x s with
  | true =>
   simp only [h, if_true]
   obtain ⟨b, h1, h2, h3, h4⟩ := ih x
   refine ⟨b, h1, .inr ?_, ?_, fun z hz => ?_⟩
   ·rcases h2 with rfl | h2
    ·simp
    ·simp [h2]
   ·cases hs : lexB s b with
    | false => rfl
    | true =>
     have := lexB_tr h (lexB_tr hs (lexB_self b))
     exact absurd (lexB_tr hs h3) (by rw [h]; simp)
   ·rcases List.mem_cons.1 hz with rfl | hz
    ·exact h3
    ·exact h4 z hz
  | false =>
   simp only [h, Bool.false_eq_true, if_false]
   obtain ⟨b, h1, h2, h3, h4⟩ := ih s
   refine ⟨b, h1, ?_, h3, fun z hz => ?_⟩
   ·rcases h2 with rfl | h2
    ·exact .inl rfl
    ·exact .inr (by simp [h2])
   ·rcases List.mem_cons.1 hz with rfl | hz
    ·cases hs : lexB z b with
     | false => rfl
     | true =>
      rcases h2 with rfl | h2
      ·rw [h] at hs; cases hs
      ·exact absurd (lexB_tr hs h3) (by
        intro q
        have := lexB_anti q h
        subst this
        rw [h3] at hs; cases hs)
    ·exact h4 z hz
theorem minT_none {l : List (List Nat)} : minT l = none -> l = [] := by
 intro h
 cases l with
 | nil => rfl
 | cons x r =>
  obtain ⟨b, h1, _⟩ := minT_go r x
  have : minT (x :: r) = some b := h1
  rw [this] at h; cases h
theorem minT_some {l : List (List Nat)} {b : List Nat} (h : minT l = some b) : b ∈ l /\ ∀ x ∈ l, lexB x b = false := by
 cases l with
 | nil => simp [minT] at h
 | cons x r =>
  obtain ⟨b', h1, h2, h3, h4⟩ := minT_go r x
  have e : minT (x :: r) = some b' := h1
  rw [e] at h
  cases h
  refine ⟨?_, fun z hz => ?_⟩
  ·rcases h2 with rfl | h2
   ·simp
   ·simp [h2]
  ·rcases List.mem_cons.1 hz with rfl | hz
   ·exact h3
   ·exact h4 z hz
def heldB (n : Nat) (y : Bx) : Held := ⟨n, y.x, y.y⟩
def waysTo (pos : List Held -> Bool) (n : Nat) (bs : List Bx) (ways : List (List Held)) : List (List Held) := ways.flatMap fun w => (bs.map fun y => w ++ [heldB n y]).filter pos
def srchT (pos : List Held -> Bool) : List (List Bx) -> List Nat -> List (List Held) -> Option (List Nat)
 | [], now, _ => some now
 | bs :: r, now, ways => (List.range 12).findSome? fun i => if now.contains (i + 1) then none else if (waysTo pos (i + 1) bs ways).isEmpty then none else srchT pos r (now ++ [i + 1]) (waysTo pos (i + 1) bs ways)
def refT (pos : List Held -> Bool) : List (List Bx) -> List Held -> List Nat -> Option (List Nat)
 | [], _, _ => some []
 | bs :: r, w, used => (List.range 12).findSome? fun i => if used.contains (i + 1) then none else (minT (bs.filterMap fun y => if pos (w ++ [heldB (i + 1) y]) then refT pos r (w ++ [heldB (i + 1) y]) (used ++ [i + 1]) else none)).map ((i + 1) :: ·)
def FeasT (pos : List Held -> Bool) : List (List Bx) -> List Held -> List Nat -> List Nat -> Prop
 | [], _, _, t => t = []
 | bs :: r, w, used, t => ∃ i t', t = (i + 1) :: t' /\ i < 12 /\ used.contains (i + 1) = false /\ ∃ y ∈ bs, pos (w ++ [heldB (i + 1) y]) = true /\ FeasT pos r (w ++ [heldB (i + 1) y]) (used ++ [i + 1]) t'
theorem lexB_head {a b : Nat} {x y : List Nat} : lexB (a :: x) (b :: y) = false ↔ b < a \/ (a = b /\ lexB x y = false) := by
 simp only [lexB]
 by_cases e : a = b
 ·subst e; simp
 ·rw [if_neg e]; simp; omega
theorem refT_spec (pos : List Held -> Bool) : ∀ (bss : List (List Bx)) (w : List Held) (used : List Nat), (refT pos bss w used = none -> ∀ t, ¬ FeasT pos bss w used t) /\ (∀ t, refT pos bss w used = some t -> FeasT pos bss w used t /\ ∀ t', FeasT pos bss w used t' -> lexB t' t = false) := by
 intro bss
 induction bss with
 | nil =>
  intro w used
  refine ⟨fun h => by simp [refT] at h, fun t h => ?_⟩
  simp only [refT, Option.some.injEq] at h
  subst h
  refine ⟨rfl, fun t' h => ?_⟩
  have : t' = [] := h
  subst this; rfl
 | cons bs r ih =>
  intro w used
  refine ⟨fun h => ?_, fun t h => ?_⟩
  ·rintro t ⟨i, t', rfl, hi, hu, y, hy, hp, hf⟩
   have := List.findSome?_eq_none_iff.1 h i (List.mem_range.2 hi)
   simp only [hu, Bool.false_eq_true, if_false, Option.map_eq_none_iff] at this
   have h2 := minT_none this
   have h3 := List.filterMap_eq_nil_iff.1 h2 y hy
   rw [if_pos hp] at h3
   exact (ih _ _).1 h3 _ hf
  ·obtain ⟨i, hi, h1, h2⟩ := find_spec h
   split at h1
   ·cases h1
   rename_i hu
   rw [Option.map_eq_some_iff] at h1
   obtain ⟨b, hb, rfl⟩ := h1
   obtain ⟨hb1, hb2⟩ := minT_some hb
   obtain ⟨y, hy, hy2⟩ := List.mem_filterMap.1 hb1
   split at hy2
   ·rename_i hp
    obtain ⟨q1, q2⟩ := (ih _ _).2 _ hy2
    refine ⟨⟨i, b, rfl, hi, by simpa using hu, y, hy, hp, q1⟩, ?_⟩
    rintro t' ⟨j, s, rfl, hj, hju, z, hz, hpz, hfz⟩
    rw [lexB_head]
    rcases Nat.lt_trichotomy j i with q | q | q
    ·exfalso
     have := h2 j q
     simp only [hju, Bool.false_eq_true, if_false, Option.map_eq_none_iff] at this
     have h3 := List.filterMap_eq_nil_iff.1 (minT_none this) z hz
     rw [if_pos hpz] at h3
     exact (ih _ _).1 h3 _ hfz
    ·subst q
     refine .inr ⟨rfl, ?_⟩
     cases hr : refT pos r (w ++ [heldB (j + 1) z]) (used ++ [j + 1]) with
     | none => exact absurd hfz ((ih _ _).1 hr s)
     | some s' =>
      have hs := ((ih _ _).2 _ hr).2 _ hfz
      have hm : s' ∈ bs.filterMap fun y => if pos (w ++ [heldB (j + 1) y]) then refT pos r (w ++ [heldB (j + 1) y]) (used ++ [j + 1]) else none :=
       List.mem_filterMap.2 ⟨z, hz, by rw [if_pos hpz]; exact hr⟩
      have hb3 := hb2 _ hm
      cases hc : lexB s b with
      | false => rfl
      | true =>
       have h4 := lexB_tr hc hb3
       have h5 := lexB_anti hs h4
       subst h5
       rw [hb3] at hc; cases hc
    ·exact .inl (by omega)
   ·cases hy2
theorem waysTo_mem {pos : List Held -> Bool} {n : Nat} {bs : List Bx} {ways : List (List Held)} {v : List Held} : v ∈ waysTo pos n bs ways ↔ ∃ w ∈ ways, ∃ y ∈ bs, v = w ++ [heldB n y] /\ pos v = true := by
 unfold waysTo
 rw [List.mem_flatMap]
 constructor
 ·rintro ⟨w, hw, h⟩
  obtain ⟨h1, h2⟩ := List.mem_filter.1 h
  obtain ⟨y, hy, rfl⟩ := List.mem_map.1 h1
  exact ⟨w, hw, y, hy, rfl, h2⟩
 ·rintro ⟨w, hw, y, hy, rfl, h2⟩
  exact ⟨w, hw, List.mem_filter.2 ⟨List.mem_map.2 ⟨y, hy, rfl⟩, h2⟩⟩
theorem srchT_spec (pos : List Held -> Bool) : ∀ (bss : List (List Bx)) (now : List Nat) (ways : List (List Held)), ways ≠ [] ->
  (srchT pos bss now ways = none -> ∀ w ∈ ways, ∀ t, ¬ FeasT pos bss w now t) /\ (∀ s, srchT pos bss now ways = some s -> ∃ t, s = now ++ t /\ (∃ w ∈ ways, FeasT pos bss w now t) /\ ∀ w ∈ ways, ∀ t', FeasT pos bss w now t' -> lexB t' t = false) := by
 intro bss
 induction bss with
 | nil =>
  intro now ways hw
  refine ⟨fun h => by simp [srchT] at h, fun s h => ?_⟩
  simp only [srchT, Option.some.injEq] at h
  subst h
  obtain ⟨w, hw⟩ := List.exists_mem_of_ne_nil _ hw
  refine ⟨[], by simp, ⟨w, hw, rfl⟩, fun w' _ t' h => ?_⟩
  have : t' = [] := h
  subst this; rfl
 | cons bs r ih =>
  intro now ways hw
  refine ⟨fun h => ?_, fun s h => ?_⟩
  ·rintro w hw t ⟨i, t', rfl, hi, hu, y, hy, hp, hf⟩
   have := List.findSome?_eq_none_iff.1 h i (List.mem_range.2 hi)
   simp only [hu, Bool.false_eq_true, if_false] at this
   have hm : w ++ [heldB (i + 1) y] ∈ waysTo pos (i + 1) bs ways := waysTo_mem.2 ⟨w, hw, y, hy, rfl, hp⟩
   split at this
   ·rename_i he
    rw [List.isEmpty_iff.1 he] at hm; cases hm
   ·rename_i he
    exact (ih _ _ (fun e => by rw [e] at he; simp at he)).1 this _ hm _ hf
  ·obtain ⟨i, hi, h1, h2⟩ := find_spec h
   split at h1
   ·cases h1
   rename_i hu
   split at h1
   ·cases h1
   rename_i he
   obtain ⟨t, ht1, ⟨v, hv, hvf⟩, ht3⟩ := (ih _ _ (fun e => by rw [e] at he; simp at he)).2 _ h1
   obtain ⟨w, hw', y, hy, rfl, hp⟩ := waysTo_mem.1 hv
   refine ⟨(i + 1) :: t, by rw [ht1]; simp, ⟨w, hw', i, t, rfl, hi, by simpa using hu, y, hy, hp, hvf⟩, ?_⟩
   rintro w2 hw2 t' ⟨j, s', rfl, hj, hju, z, hz, hpz, hfz⟩
   have hm : w2 ++ [heldB (j + 1) z] ∈ waysTo pos (j + 1) bs ways := waysTo_mem.2 ⟨w2, hw2, z, hz, rfl, hpz⟩
   rw [lexB_head]
   rcases Nat.lt_trichotomy j i with q | q | q
   ·exfalso
    have := h2 j q
    simp only [hju, Bool.false_eq_true, if_false] at this
    split at this
    ·rename_i he
     rw [List.isEmpty_iff.1 he] at hm; cases hm
    ·rename_i he
     exact (ih _ _ (fun e => by rw [e] at he; simp at he)).1 this _ hm _ hfz
   ·subst q
    exact .inr ⟨rfl, ht3 _ hm _ hfz⟩
   ·exact .inl (by omega)
theorem srch_ref (pos : List Held -> Bool) (bss : List (List Bx)) : srchT pos bss [] [[]] = refT pos bss [] [] := by
 obtain ⟨a1, a2⟩ := srchT_spec pos bss [] [[]] (by simp)
 obtain ⟨b1, b2⟩ := refT_spec pos bss [] []
 cases hs : srchT pos bss [] [[]] with
 | none => cases hr : refT pos bss [] [] with
  | none => rfl
  | some t => exact absurd (b2 _ hr).1 (a1 hs [] (by simp) t)
 | some s =>
  obtain ⟨t, h1, ⟨w, hw, hf⟩, h3⟩ := a2 _ hs
  simp only [List.mem_singleton] at hw
  subst hw
  simp only [List.nil_append] at h1
  subst h1
  cases hr : refT pos bss [] [] with
  | none => exact absurd hf (b1 hr s)
  | some t =>
   obtain ⟨q1, q2⟩ := b2 _ hr
   rw [lexB_anti (q2 _ hf) (h3 [] (by simp) _ q1)]
end Go.AM
namespace Go.AM
open Go
variable [Keep]
attribute [local irreducible] boundsS
theorem feas_is (pos : List Held -> Bool) : ∀ (bss : List (List Bx)) (w : List Held) (used t : List Nat), FeasT pos bss w used t -> t.length = bss.length /\ (∀ k ∈ t, (1 <= k /\ k <= 12) /\ k ∉ used) /\ t.Nodup := by
 intro bss
 induction bss with
 | nil => intro w used t h; have : t = [] := h; subst this; simp
 | cons bs r ih =>
  rintro w used t ⟨i, t', rfl, hi, hu, y, hy, hp, hf⟩
  obtain ⟨h1, h2, h3⟩ := ih _ _ _ hf
  have hu' : i + 1 ∉ used := by simpa using hu
  refine ⟨by simp [h1], fun k hk => ?_, ?_⟩
  ·rcases List.mem_cons.1 hk with rfl | hk
   ·exact ⟨by omega, hu'⟩
   ·obtain ⟨q1, q2⟩ := h2 k hk
    exact ⟨q1, fun q => q2 (by simp [q])⟩
  ·rw [List.nodup_cons]
   exact ⟨fun q => (h2 _ q).2 (by simp), h3⟩
theorem feas_at (pos : List Held -> Bool) (Q : Held -> Prop) : ∀ (bss : List (List Bx)) (w : List Held) (used t : List Nat), (∀ m ∈ w, Q m) -> (∀ bs ∈ bss, ∀ y ∈ bs, ∀ i, i < 12 -> Q (heldB (i + 1) y)) -> FeasT pos bss w used t ->
  ∀ (j : Nat) (bs : List Bx) (n : Nat), bss[j]? = some bs -> t[j]? = some n -> ∃ y ∈ bs, ∃ ms, pos ms = true /\ heldB n y ∈ ms /\ ∀ m ∈ ms, Q m := by
 intro bss
 induction bss with
 | nil => intro w used t _ _ _ j bs n h; simp at h
 | cons b r ih =>
  rintro w used t hw hb ⟨i, t', rfl, hi, hu, y, hy, hp, hf⟩ j bs n h1 h2
  have hq := hb b (by simp) y hy i hi
  have hw' : ∀ m ∈ w ++ [heldB (i + 1) y], Q m := fun m hm => by
   rcases List.mem_append.1 hm with q | q
   ·exact hw m q
   ·simp only [List.mem_singleton] at q; subst q; exact hq
  cases j with
  | zero =>
   simp only [List.getElem?_cons_zero, Option.some.injEq] at h1 h2
   subst h1 h2
   exact ⟨y, hy, _, hp, by simp, hw'⟩
  | succ j =>
   simp only [List.getElem?_cons_succ] at h1 h2
   exact ih _ _ _ hw' (fun bs hbs => hb bs (by simp [hbs])) hf j bs n h1 h2
theorem feas_true (pos : List Held -> Bool) (Q : Held -> Prop) (hpos : ∀ ms, (∀ m ∈ ms, Q m) -> pos ms = true) : ∀ (bss : List (List Bx)) (blanks : List Nat) (w : List Held) (used : List Nat), blanks.length = bss.length -> (∀ k ∈ blanks, (1 <= k /\ k <= 12) /\ k ∉ used) -> blanks.Nodup ->
  (∀ (j : Nat) (bs : List Bx) (n : Nat), bss[j]? = some bs -> blanks[j]? = some n -> ∃ y ∈ bs, Q (heldB n y)) -> (∀ m ∈ w, Q m) -> FeasT pos bss w used blanks := by
 intro bss
 induction bss with
 | nil => intro blanks w used hl _ _ _ _; exact List.length_eq_zero_iff.1 hl
 | cons bs r ih =>
  intro blanks w used hl hk hn hq hw
  cases blanks with
  | nil => simp at hl
  | cons n t =>
   obtain ⟨⟨k1, k2⟩, k3⟩ := hk n (by simp)
   obtain ⟨y, hy, hqy⟩ := hq 0 bs n rfl rfl
   rw [List.nodup_cons] at hn
   have hw' : ∀ m ∈ w ++ [heldB n y], Q m := fun m hm => by
    rcases List.mem_append.1 hm with q | q
    ·exact hw m q
    ·simp only [List.mem_singleton] at q; subst q; exact hqy
   obtain ⟨i, rfl⟩ : ∃ i, n = i + 1 := ⟨n - 1, by omega⟩
   refine ⟨i, t, rfl, by omega, by simpa using k3, y, hy, hpos _ hw', ?_⟩
   refine ih t _ _ (by simpa using hl) (fun k hkt => ?_) hn.2 (fun j bs' n' h1 h2 => hq (j + 1) bs' n' (by simpa using h1) (by simpa using h2)) hw'
   obtain ⟨a, b⟩ := hk k (by simp [hkt])
   refine ⟨a, fun q => ?_⟩
   rcases List.mem_append.1 q with q | q
   ·exact b q
   ·simp only [List.mem_singleton] at q
    subst q
    exact hn.1 hkt
def posH (cx cy wx wy : Sp) (rs : List Rdg) (ms : List Held) : Bool := (boundsS (ax0 cx wx rs ms)).isSome && (boundsS (ax1 cy wy rs ms)).isSome
theorem posH_nil (cx cy wx wy : Sp) (rs : List Rdg) : posH cx cy wx wy rs [] = possB cx cy wx wy rs := rfl
theorem posH_one (cx cy wx wy : Sp) (rs : List Rdg) (n : Nat) (y : Bx) : posH cx cy wx wy rs [heldB n y] = canB cx cy wx wy rs n y := rfl
theorem fitsA_sub {c w : Sp} {L L' : List Lim} {l : List Int} (h : fitsA ⟨c, w, L⟩ l = true) (hs : ∀ m ∈ L', m ∈ L) : fitsA ⟨c, w, L'⟩ l = true := by
 simp only [fitsA, Bool.and_eq_true, List.all_eq_true] at h ⊢
 exact ⟨h.1, h.2.1, fun m hm => h.2.2 m (hs m hm)⟩
theorem bounds_sub {c w : Sp} {L L' : List Lim} (g : Good c w L) (g' : Good c w L') (hL : ∀ m ∈ L, 0 <= m.b /\ m.b <= 12) (hs : ∀ m ∈ L', m ∈ L) (h : (boundsS ⟨c, w, L⟩).isSome = true) : (boundsS ⟨c, w, L'⟩).isSome = true := by
 obtain ⟨t, ht⟩ := Option.isSome_iff_exists.1 h
 have b := bnd_of g ht
 have hf := ends_fit g hL b Sp.lo (.inl fun _ => rfl)
 have hn : (endsL Sp.lo t).all okN = true := by
  refine List.all_eq_true.2 fun x hx => ?_
  unfold endsL at hx
  obtain ⟨j, hj, rfl⟩ := List.mem_map.1 hx
  have hj : j < 13 := by simpa using hj
  have h1 := b.small j (by omega)
  have h2 := b.ne j (by omega)
  have e : w64 (-80) = -80 := rfl
  simp only [okN, inB, e, Bool.and_eq_true, decide_eq_true_eq]
  omega
 obtain ⟨t', ht', _⟩ := fits_within g' (fitsA_sub hf hs) hn
 rw [ht']
 rfl
section
variable {ss : List Pt} {cx cy wx wy : Sp} {rs : List Rdg} (h : machB ss cx cy wx wy rs = true)
include h
theorem lims_in {ms : List Held} (hm : ∀ m ∈ ms, HeldOk m) : (∀ m ∈ (ax0 cx wx rs ms).limits, 0 <= m.b /\ m.b <= 12) /\ (∀ m ∈ (ax1 cy wy rs ms).limits, 0 <= m.b /\ m.b <= 12) := by
 have hr := mach_rdg h
 constructor <;>
 ·intro m h'
  rcases List.mem_append.1 h' with q | q
  ·obtain ⟨p, hp, rfl⟩ := List.mem_map.1 q
   have := rdg_of (hr p hp)
   simp only
   omega
  ·obtain ⟨k, hk, rfl⟩ := List.mem_map.1 q
   exact (hm k hk).b
theorem posH_sub {ms ms' : List Held} (hm : ∀ m ∈ ms, HeldOk m) (hs : ∀ m ∈ ms', m ∈ ms) (hp : posH cx cy wx wy rs ms = true) : posH cx cy wx wy rs ms' = true := by
 have hm' : ∀ m ∈ ms', HeldOk m := fun m q => hm m (hs m q)
 unfold posH at hp ⊢
 rw [Bool.and_eq_true] at hp ⊢
 obtain ⟨l1, l2⟩ := lims_in h hm
 refine ⟨bounds_sub (L := (ax0 cx wx rs ms).limits) (L' := (ax0 cx wx rs ms').limits) (good_xh h hm) (good_xh h hm') l1 (fun m q => ?_) hp.1, bounds_sub (L := (ax1 cy wy rs ms).limits) (L' := (ax1 cy wy rs ms').limits) (good_yh h hm) (good_yh h hm') l2 (fun m q => ?_) hp.2⟩ <;>
 ·rcases List.mem_append.1 q with q | q
  ·exact List.mem_append.2 (.inl q)
  ·obtain ⟨k, hk, rfl⟩ := List.mem_map.1 q
   exact List.mem_append.2 (.inr (List.mem_map.2 ⟨k, hs k hk, rfl⟩))
variable {xs ys : List Int} (ht : truthB xs ys = true) (hf : fitsM cx cy wx wy rs xs ys = true)
include ht hf
def HeldT (xs ys : List Int) (m : Held) : Prop := HeldOk m /\ ∃ n y, m = heldB n y /\ inBx (xs.getD n 0) (ys.getD n 0) y
theorem posH_true {ms : List Held} (hm : ∀ m ∈ ms, HeldT xs ys m) : posH cx cy wx wy rs ms = true := by
 obtain ⟨_, _, n1, n2⟩ := truth_of ht
 simp only [fitsM, Bool.and_eq_true] at hf
 have hm' : ∀ m ∈ ms, HeldOk m := fun m q => (hm m q).1
 have f1 : fitsA ⟨cx, wx, (ax0 cx wx rs ms).limits⟩ xs = true := by
  simp only [fitsA, Bool.and_eq_true, List.all_eq_true] at hf ⊢
  refine ⟨hf.1.1, hf.1.2.1, fun m q => ?_⟩
  rcases List.mem_append.1 q with q | q
  ·exact hf.1.2.2 m q
  ·obtain ⟨k, hk, rfl⟩ := List.mem_map.1 q
   obtain ⟨_, n, y, rfl, hy⟩ := hm k hk
   exact inL_in hy.1
 have f2 : fitsA ⟨cy, wy, (ax1 cy wy rs ms).limits⟩ ys = true := by
  simp only [fitsA, Bool.and_eq_true, List.all_eq_true] at hf ⊢
  refine ⟨hf.2.1, hf.2.2.1, fun m q => ?_⟩
  rcases List.mem_append.1 q with q | q
  ·exact hf.2.2.2 m q
  ·obtain ⟨k, hk, rfl⟩ := List.mem_map.1 q
   obtain ⟨_, n, y, rfl, hy⟩ := hm k hk
   exact inL_in hy.2
 obtain ⟨a, a1, _⟩ := fits_within (good_xh h hm') f1 n1
 obtain ⟨b, b1, _⟩ := fits_within (good_yh h hm') f2 n2
 have a1 : boundsS (ax0 cx wx rs ms) = some a := a1
 have b1 : boundsS (ax1 cy wy rs ms) = some b := b1
 unfold posH
 rw [a1, b1]
 rfl
end
end Go.AM
set_option maxRecDepth 100000
namespace Go.AM
open Go Go.Proofs
variable [Keep]
attribute [local irreducible] W WO WO1 WD WQ WT thenQ blockQ endR isRet retK Cl ClR
attribute [local irreducible] isNew roundQ RdR boundsS machB boxL suitB
def clS (sz : Nat) (h : Heap) (l : List AV) (r : COut) : Prop := ∃ v h', r = .ret v h' none /\ BltN h.next h' v sz l /\ HExt h h'
theorem clS_fail {sz : Nat} {h : Heap} {l : List AV} : ¬ clS sz h l .fail := by rintro ⟨_, _, e, _⟩; cases e
theorem clS_ret {sz : Nat} {h h' : Heap} {v : AV} {l : List AV} (b : BltN h.next h' v sz l) (x : HExt h h') : clS sz h l (.ret v h' none) := ⟨v, h', rfl, b, x⟩
attribute [local irreducible] clS
theorem eq173n : binV Tryz.prog .eql 173 true .nilslice .nilslice = some (.bool true) := by
 simp [binV, eqOp, eqV, isSliceT, whenB, Tryz.underlying173]
theorem eq173r (id n : Nat) : binV Tryz.prog .eql 173 true (.row id 0 n) .nilslice = some (.bool false) := by
 simp [binV, eqOp, eqV, isSliceT, whenB, Tryz.underlying173]
theorem C117 (c : Itr) (hc : c 117 = none) (a : AV) (w : List Held) (h : Heap) (b : Blt h a 5 (w.map heldC.enc)) (hm : w.length <= 1000) : ClR (dX c) 117 [a] h (clS 5 h (w.map heldC.enc)) := by
 have hsz : ∀ v ∈ w.map heldC.enc, v.cells.length = 5 := fun v hv => by
  obtain ⟨k, _, rfl⟩ := List.mem_map.1 hv
  rfl
 have hlen : (w.map heldC.enc).length <= most := by rw [List.length_map]; unfold most; omega
 refine ClR.walk (c := _) hc Tryz.func117 rfl (by kernel_rfl) rfl clS_fail ?_
 simp only [entryEnv, Nat.reduceAdd]
 rcases b with ⟨rfl, hnil⟩ | ⟨id, rfl, hg, hid, hne⟩
 ·have HN := Lib.hid hnil
  have hq := eq173n
  clear hsz hlen hnil
  repeat' (first | refine goS ?_ | refine go2 (fun hh => ?_) (fun hh => ?_) | fail)
  all_goals (simp only [resV_def (X := dX c) Tryz.func117, Tryz.results117]; first | exact J5 | refine J6 ?_)
  rw [HN.out]
  exact clS_ret BltN.nil (HExt.refl h)
 ·have hel : h.elems (.row id 0 (w.map heldC.enc).length) = some (w.map heldC.enc) := Blt.elems (sz := 5) (.inr ⟨id, rfl, hg, hid, hne⟩)
  have hq := eq173r id (w.map heldC.enc).length
  have HG := Lib.hid hg
  have HI := Lib.hid hid
  clear hg hid
  repeat' (first | (apply WO1.append0 (t := 173) (u := 173) (e := 176) (e' := 176) (sz := 5) (tl := []) (new := w.map heldC.enc) (hx := .inl rfl); exact Z1; exact rfl; exact Z2; exact Z2; exact Z2; (focus (exact ty_row173)); (focus (first | exact Z2 | exact hel)); (focus (exact hsz)); (focus (exact hlen)); (focus (exact hne)); simp only [pM, pN]) | refine go1 ?_ | refine go2 (fun hh => ?_) (fun hh => ?_) | fail)
  all_goals (simp only [resV_def (X := dX c) Tryz.func117, Tryz.results117]; first | exact J5 | refine J6 ?_)
  refine clS_ret (.inr ⟨h.next, rfl, ?_, Nat.le_refl _, Nat.lt_succ_self _, hne⟩) (hext_new _ _)
  rw [Heap.get_new, if_pos rfl]
def ElemsC {α : Type} (c : Cd α) (sz : Nat) (h : Heap) (es : List AV) (ps : List (List α)) : Prop := es.length = ps.length /\ ∀ (i : Nat) (r : AV) (p : List α), es[i]? = some r -> ps[i]? = some p -> Blt h r sz (p.map c.enc)
section
variable {α : Type} {c : Cd α} {sz : Nat} {h h' : Heap} {es : List AV} {ps : List (List α)}
theorem ElemsC.ext (q : ElemsC c sz h es ps) (k : HExt h h') : ElemsC c sz h' es ps := ⟨q.1, fun i r p h1 h2 => (q.2 i r p h1 h2).ext k⟩
theorem ElemsC.nil : ElemsC c sz h [] [] := ⟨rfl, fun i r p h1 => by simp at h1⟩
theorem ElemsC.add {r : AV} {p : List α} (q : ElemsC c sz h es ps) (b : Blt h r sz (p.map c.enc)) : ElemsC c sz h (es ++ [r]) (ps ++ [p]) := by
 refine ⟨by simp [q.1], fun i r' p' h1 h2 => ?_⟩
 have hl := q.1
 rcases Nat.lt_trichotomy i es.length with c | c | c
 ·rw [List.getElem?_append_left c] at h1
  rw [List.getElem?_append_left (by omega)] at h2
  exact q.2 i r' p' h1 h2
 ·subst c
  rw [List.getElem?_append_right (Nat.le_refl _)] at h1
  rw [hl, List.getElem?_append_right (Nat.le_refl _)] at h2
  simp at h1 h2
  subst h1 h2
  exact b
 ·rw [List.getElem?_eq_none (by simp; omega)] at h1
  cases h1
theorem Blt.other {v w : AV} {s1 s2 : Nat} {l m : List AV} (b : Blt h v s1 l) (bw : Blt h w s2 m) (hne : s1 ≠ s2) (k : Keeps h h' w) : Blt h' v s1 l := by
 rcases b with q | ⟨j, q1, q2, q3, q4⟩
 ·exact .inl q
 ·refine .inr ⟨j, q1, ?_, Nat.lt_of_lt_of_le q3 k.1, q4⟩
  rw [k.2 j q3 fun o n e => ?_]
  ·exact q2
  ·rcases bw with ⟨s, _⟩ | ⟨i, r1, r2, _, _⟩
   ·rw [s] at e; cases e
   ·rw [r1] at e
    cases e
    rw [q2] at r2
    have r2 := Option.some.inj r2
    cases r2
    exact hne rfl
theorem ElemsC.other {w : AV} {s2 : Nat} {m : List AV} (q : ElemsC c sz h es ps) (bw : Blt h w s2 m) (hne : sz ≠ s2) (k : Keeps h h' w) : ElemsC c sz h' es ps := ⟨q.1, fun i r p h1 h2 => (q.2 i r p h1 h2).other bw hne k⟩
end
def RdW (h : Heap) (v : AV) (ws : List (List Held)) : Prop := ∃ es, ((v = .vslice es /\ es ≠ []) \/ Blt h v 1 es) /\ ElemsC heldC 5 h es ws
theorem RdW.ext {h h' : Heap} {v : AV} {ws : List (List Held)} (q : RdW h v ws) (k : HExt h h') : RdW h' v ws := by
 obtain ⟨es, q1, q2⟩ := q
 refine ⟨es, ?_, q2.ext k⟩
 rcases q1 with q1 | q1
 ·exact .inl q1
 ·exact .inr (q1.ext k)
theorem RdW.len {h : Heap} {v : AV} {ws : List (List Held)} (q : RdW h v ws) : lenS v = some ws.length := by
 obtain ⟨es, q1, q2⟩ := q
 rw [<- q2.1]
 rcases q1 with ⟨rfl, _⟩ | q1
 ·rfl
 ·exact q1.len
theorem RdW.out {h : Heap} {v : AV} {ws : List (List Held)} (q : RdW h v ws) : outV (some v) = some v := by
 obtain ⟨es, q1, q2⟩ := q
 rcases q1 with ⟨rfl, _⟩ | q1
 ·rfl
 ·exact q1.out
theorem RdW.tup {h : Heap} {v : AV} {ws : List (List Held)} (q : RdW h v ws) : isTuple v = false := by
 obtain ⟨es, q1, q2⟩ := q
 rcases q1 with ⟨rfl, _⟩ | q1
 ·rfl
 ·exact q1.tup
theorem RdW.idx {h : Heap} {v : AV} {ws : List (List Held)} (q : RdW h v ws) {k : Nat} {w : List Held} (hk : ws[k]? = some w) : ∃ r, Blt h r 5 (w.map heldC.enc) /\ ∀ hp, HExt h hp -> ∃ ptr, indexAddrV Tryz.prog hp 172 v (.int .i64 ↑k) = some ptr /\ ∀ f rnd e lm df up, (Fr.mk f rnd e lm hp df up).mem ptr = some ([r], 0) := by
 obtain ⟨es, q1, q2⟩ := q
 have hkl : k < ws.length := (List.getElem?_eq_some_iff.1 hk).1
 obtain ⟨r, hr⟩ : ∃ r, es[k]? = some r := ⟨_, List.getElem?_eq_getElem (by rw [q2.1]; exact hkl)⟩
 have b := q2.2 k r w hr hk
 refine ⟨r, b, fun hp hx => ?_⟩
 have hi : idxV (.int .i64 (k : Int)) es.length = some k := by simp [idxV, q2.1, hkl]
 have hc := b.cells
 rcases q1 with ⟨rfl, _⟩ | q1
 ·refine ⟨.vptr [r], ?_, fun f rnd e lm df up => by rw [mem_vptr]⟩
  simp only [indexAddrV, Tryz.underlying172, ty_lay173, hi, hr, hc, List.length_cons, List.length_nil, Nat.zero_add, if_true]
 ·obtain ⟨id, e1, e2⟩ := (q1.ext hx).idx (P := Tryz.prog) (t := 172) (e := 173) (ag := false) Tryz.underlying172 ty_lay173 (k := k) (by rw [q2.1]; exact hkl)
  refine ⟨_, e1, fun f rnd e lm df up => ?_⟩
  rw [mem_eptr]
  simp only [e2, hr, if_true, hc]
def NowR (h : Heap) (v : AV) (now : List Nat) : Prop := (v = .vempty /\ now = []) \/ Blt h v 1 (natsV now)
section
variable {h h' : Heap} {v : AV} {now : List Nat}
theorem NowR.ext (q : NowR h v now) (k : HExt h h') : NowR h' v now := by
 rcases q with q | q
 ·exact .inl q
 ·exact .inr (q.ext k)
theorem NowR.len (q : NowR h v now) : lenS v = some now.length := by
 rcases q with ⟨rfl, rfl⟩ | q
 ·rfl
 ·rw [q.len, natsV_len]
theorem NowR.out (q : NowR h v now) : outV (some v) = some v := by
 rcases q with ⟨rfl, rfl⟩ | q
 ·rfl
 ·exact q.out
theorem NowR.tup (q : NowR h v now) : isTuple v = false := by
 rcases q with ⟨rfl, rfl⟩ | q
 ·rfl
 ·exact q.tup
theorem NowR.seen (q : NowR h v now) : ∃ v', viewV h v = some v' /\ slV intC v' = some (now.map fun k : Nat => (k : Int)) \/ maxL < now.length := by
 rcases Nat.lt_or_ge maxL now.length with c | c
 ·exact ⟨v, .inr c⟩
 ·rcases q with ⟨rfl, rfl⟩ | q
  ·exact ⟨.vempty, .inl ⟨rfl, rfl⟩⟩
  ·exact ⟨_, .inl ⟨q.seen (natsV_pur now), by rw [natsV_ints]; exact slV_slN (by simpa using c)⟩⟩
end
theorem K116n {X : Ctx} (hX : X.intr 116 = some (flatFn sp116)) (a : AV) (p : List Nat) (v : Nat) (h : Heap) (b : NowR h a p) (hm : p.length <= maxL) : Cl X 116 [a, .int .i64 (v : Nat)] h (.ret (.bool (p.contains v)) h none) := by
 obtain ⟨v', q⟩ := b.seen
 rcases q with ⟨q1, q2⟩ | q
 ·have e3 := any_nats p v
  exact Cl.intr hX (by simp only [flatFn, viewVs, q1, view_pur (a := .int .i64 (v : Int)) rfl, sp116, q2, Option.map_some, e3])
 ·omega
def clN (h : Heap) (now : List Nat) (r : COut) : Prop := ∃ v h', r = .ret v h' none /\ HExt h h' /\ ((v = .vempty /\ now = []) \/ BltN h.next h' v 1 (natsV now))
theorem clN_fail {h : Heap} {now : List Nat} : ¬ clN h now .fail := by rintro ⟨_, _, e, _⟩; cases e
attribute [local irreducible] clN
theorem clN_vempty {h : Heap} : clN h [] (.ret .vempty h none) := by unfold clN; exact ⟨.vempty, h, rfl, HExt.refl h, .inl ⟨rfl, rfl⟩⟩
theorem eq39e : binV Tryz.prog .eql 39 true .vempty .nilslice = some (.bool false) := by
 simp [binV, eqOp, eqV, isSliceT, whenB, Tryz.underlying39]
theorem appVE {X : Ctx} {ops : Array Oper} {K P : AV -> Fr -> Prop} {F : Fr} {d : Option Tmp} {T : TypeId} {p : String} {af : Array Edge} {args : Array Operand} {at_ : Array TypeId} {t u e e' : TypeId} {tl : List TypeId} (hargs : F.opvs args.toList = some [.vempty, .vempty]) (ht : at_.toList = t :: u :: tl) (hu : X.P.underlying u = some (.slice e')) (hel : elemT X.P t = some e) (hrow : rowable X.P e = true)
  (h : K .vempty (F.put d .vempty)) : WO1 X ops ⟨d, .call ⟨.builtin .append, args, at_⟩, T, p, af, none⟩ F K P := by
 have e1 : appendV X.P F t .vempty [] = some (.vempty, F) := by simp [appendV, hel, hrow]
 refine U5 (v := .vempty) (F' := F) rfl (fun cl rd => ?_) h
 simp only [efV, Fr.callOp, Fr.builtinE, Fr.appendE, ht, hargs, hu]
 simp [Heap.elems, e1, okO]
theorem C118n (c : Itr) (hc : c 118 = none) (a : AV) (p : List Nat) (h : Heap) (b : NowR h a p) (hm : p.length <= 1000) : ClR (dX c) 118 [a] h (clN h p) := by
 rcases b with ⟨rfl, rfl⟩ | b
 ·refine ClR.walk (c := _) hc Tryz.func118 rfl (by kernel_rfl) rfl clN_fail ?_
  simp only [entryEnv, Nat.reduceAdd]
  have hq := eq39e
  repeat' (first | (apply appVE (t := 39) (u := 39) (e := 3) (e' := 3) (tl := []); exact Z2; exact rfl; exact Z2; exact Z2; (focus (exact ty_row39)); simp only [pM, pN]) | refine go1 ?_ | refine go2 (fun hh => ?_) (fun hh => ?_) | fail)
  all_goals (simp only [resV_def (X := dX c) Tryz.func118, Tryz.results118]; first | exact J5 | refine J6 ?_)
  exact clN_vempty
 ·have := C118 c hc a p h b hm
  unfold ClR at this ⊢
  obtain ⟨r, h1, h2⟩ := this
  refine ⟨r, h1, ?_⟩
  unfold clR at h2
  unfold clN
  obtain ⟨v, h', e, b', x⟩ := h2
  exact ⟨v, h', e, x, .inr b'⟩
section
variable {X : Ctx} {ops : Array Oper} {K P : AV -> Fr -> Prop} {F : Fr} {d : Option Tmp} {T : TypeId} {p : String} {af : Array Edge}
theorem WO1.appendB {args : Array Operand} {at_ : Array TypeId} {t u e e' : TypeId} {tl : List TypeId} {sz : Nat} {x y : AV} {new l : List AV} (hb : (x = .vempty /\ l = []) \/ Blt F.hp x sz l) (hargs : F.opvs args.toList = some [x, y]) (ht : at_.toList = t :: u :: tl) (hu : X.P.underlying u = some (.slice e'))
  (hel : elemT X.P t = some e) (hs : szT X.P e = sz) (hrow : rowable X.P e = true) (hy : F.hp.elems y = some new) (hsz : ∀ v ∈ new, v.cells.length = sz) (hlen : l.length + new.length <= most) (hne : new ≠ [])
  (h : ∀ v' h', Blt h' v' sz (l ++ new) -> outV (some v') = some v' -> Keeps F.hp h' x -> v' = .row F.hp.next 0 (l ++ new).length -> K v' (({ F with hp := h' } : Fr).put d v')) : WO1 X ops ⟨d, .call ⟨.builtin .append, args, at_⟩, T, p, af, none⟩ F K P := by
 rcases hb with ⟨rfl, rfl⟩ | hb
 ·refine WO1.append0 (hx := .inl rfl) hargs ht hu hel hs hrow hy hsz (by simpa using hlen) hne ?_
  refine h _ _ ?_ rfl ⟨Nat.le_succ _, fun id hid _ => by rw [Heap.get_new, if_neg (by omega)]⟩ rfl
  refine .inr ⟨F.hp.next, rfl, ?_, Nat.lt_succ_self _, by simpa using hne⟩
  rw [Heap.get_new, if_pos rfl]
  rfl
 ·exact WO1.appendE hb hargs ht hu hel hs hrow hy hsz hlen hne h
end
theorem K103r {X : Ctx} (hX : X.intr 103 = some (onHeap h103)) (sa ra mv : AV) (cx cy wx wy : Sp) (rs : List Rdg) (hr : slV rdgC ra = some rs) (hs : sa.one = true) (hm : mv.one = true) (hlen : rs.length <= 1000) (v : AV) (w : List Held) (hw : w.length <= 1000) (h : Heap) (b : Blt h v 5 (w.map heldC.enc)) :
  Cl X 103 [.agg [sa, .int .i64 cx.lo, .int .i64 cx.hi, .int .i64 cy.lo, .int .i64 cy.hi, .int .i64 wx.lo, .int .i64 wx.hi, .int .i64 wy.lo, .int .i64 wy.hi, ra, mv], v] h (.ret (knV (ax0 cx wx rs w) (ax1 cy wy rs w)) h none) :=
 Cl.intr hX (by
  have h2 : (Nat.ble (rs.length + w.length) maxL && sa.one && mv.one) = true := by
   rw [hs, hm]
   simp [Nat.ble_eq]
   unfold maxL
   omega
  rcases b with ⟨rfl, e⟩ | ⟨id, rfl, hg, hid, hne⟩
  ·have hw0 : w = [] := by simpa using e
   subst hw0
   have h1 : slV heldC .nilslice = some [] := rfl
   simp only [onHeap, h103, sp103, hr, h1, h2, if_true]
  ·have h1 : slV heldC (.vslice (w.map heldC.enc)) = some w := by
    have := slV_mk (c := heldC) (a := .vslice (w.map heldC.enc)) (l := w) (.inr rfl) (by unfold maxL; omega)
    exact this
   have h3 : (Nat.beq 5 5 && Nat.ble (0 + (w.map heldC.enc).length) (w.map heldC.enc).length && AV.purL (w.map heldC.enc)) = true := by
    rw [purL_all (enc_pur heldC w)]
    simp [Nat.ble_eq]
   have h4 : ((w.map heldC.enc).drop 0).take (w.map heldC.enc).length = w.map heldC.enc := by
    rw [List.drop_zero, List.take_length]
   simp only [onHeap, h103, hg, h3, if_true, h4, sp103, hr, h1, h2])
theorem knV_pos (cx cy wx wy : Sp) (rs : List Rdg) (w : List Held) : ∃ a b, knV (ax0 cx wx rs w) (ax1 cy wy rs w) = .tuple [.agg [a, b], .bool (posH cx cy wx wy rs w)] /\ outV (some a) = some a /\ outV (some b) = some b /\ isTuple a = false /\ isTuple b = false /\ a.cells = [a] /\ b.cells = [b] := by
 cases q : posH cx cy wx wy rs w with
 | false => exact ⟨.nilslice, .nilslice, kn_no q, rfl, rfl, rfl, rfl, rfl, rfl⟩
 | true =>
  unfold posH at q
  simp only [Bool.and_eq_true, Option.isSome_iff_exists] at q
  obtain ⟨⟨a, ha⟩, ⟨b, hb⟩⟩ := q
  exact ⟨_, _, by rw [knV_def, ha, hb]; rfl, (slN_is _).out, (slN_is _).out, (slN_is _).tup, (slN_is _).tup, (slN_is _).cells, (slN_is _).cells⟩
end Go.AM
namespace Go.AM
open Go Go.Proofs
variable [Keep]
attribute [local irreducible] W WO WO1 WD WQ WT thenQ blockQ endR isRet retK Cl ClR
attribute [local irreducible] isNew roundQ RdR boundsS machB boxL suitB posH clS clN
structure TgE (h : Heap) (pl pa pm ps : Nat) (la av : AV) (mc owns : List AV) (bss : List (List Bx)) : Prop where
 gl : h.get pl = some (.var [la])
 ga : h.get pa = some (.var [av])
 gm : h.get pm = some (.var mc)
 gs : h.get ps = some (.var [.func (.func 115) [] [.ptr pl 0, .ptr pa 0, .ptr pm 0, .ptr ps 0]])
 ll : pl < h.next /\ pa < h.next /\ pm < h.next /\ ps < h.next
 ba : Blt h av 1 owns
 bo : ElemsC bxC 4 h owns bss
theorem TgE.ext {h h' : Heap} {pl pa pm ps : Nat} {la av : AV} {mc owns : List AV} {bss : List (List Bx)} (q : TgE h pl pa pm ps la av mc owns bss) (k : HExt h h') : TgE h' pl pa pm ps la av mc owns bss :=
 ⟨(k.2 _ q.ll.1).trans q.gl, (k.2 _ q.ll.2.1).trans q.ga, (k.2 _ q.ll.2.2.1).trans q.gm, (k.2 _ q.ll.2.2.2).trans q.gs, ⟨Nat.lt_of_lt_of_le q.ll.1 k.1, Nat.lt_of_lt_of_le q.ll.2.1 k.1, Nat.lt_of_lt_of_le q.ll.2.2.1 k.1, Nat.lt_of_lt_of_le q.ll.2.2.2 k.1⟩, q.ba.ext k, q.bo.ext k⟩
def ansV : Option (List Nat) -> AV
 | none => .nilslice
 | some s => slN (natsV s)
def tgR (h : Heap) (nv : AV) (o : Option (List Nat)) (r : COut) : Prop := ∃ h', r = .ret (ansV o) h' none /\ Keeps h h' nv
theorem tgR_fail {h : Heap} {nv : AV} {o : Option (List Nat)} : ¬ tgR h nv o .fail := by rintro ⟨_, e, _⟩; cases e
theorem tgR_ret {h h' : Heap} {nv v : AV} {o : Option (List Nat)} (e : v = ansV o) (k : Keeps h h' nv) : tgR h nv o (.ret v h' none) := ⟨h', by rw [e], k⟩
attribute [local irreducible] tgR
def prodL (l : List (List Bx)) : Nat := (l.map fun b => b.length + 1).foldr (· * ·) 1
theorem prodL_cons (b : List Bx) (r : List (List Bx)) : prodL (b :: r) = (b.length + 1) * prodL r := rfl
theorem prodL_pos : ∀ l : List (List Bx), 1 <= prodL l := by
 intro l
 induction l with
 | nil => exact Nat.le_refl _
 | cons b l ih =>
  rw [prodL_cons]
  have := Nat.mul_le_mul (show 1 <= b.length + 1 by omega) ih
  omega
theorem waysTo_len (pos : List Held -> Bool) (n : Nat) (bs : List Bx) : ∀ ws : List (List Held), (waysTo pos n bs ws).length <= ws.length * bs.length := by
 intro ws
 induction ws with
 | nil => simp [waysTo]
 | cons w ws ih =>
  have e : waysTo pos n bs (w :: ws) = (bs.map fun y => w ++ [heldB n y]).filter pos ++ waysTo pos n bs ws := rfl
  rw [e, List.length_append, List.length_cons, Nat.succ_mul]
  have := List.length_filter_le pos (bs.map fun y => w ++ [heldB n y])
  rw [List.length_map] at this
  omega
theorem waysTo_next {pos : List Held -> Bool} {n : Nat} {bs : List Bx} {ws : List (List Held)} {i : Nat} {w : List Held} (h : ws[i]? = some w) : waysTo pos n bs (ws.take (i + 1)) = waysTo pos n bs (ws.take i) ++ (bs.map fun y => w ++ [heldB n y]).filter pos := by
 unfold waysTo
 rw [take_next h, List.flatMap_append]
 simp
theorem filt_next {pos : List Held -> Bool} {n : Nat} {bs : List Bx} {w : List Held} {j : Nat} {y : Bx} (h : bs[j]? = some y) : ((bs.take (j + 1)).map fun y => w ++ [heldB n y]).filter pos = ((bs.take j).map fun y => w ++ [heldB n y]).filter pos ++ (if pos (w ++ [heldB n y]) then [w ++ [heldB n y]] else []) := by
 rw [take_next h, List.map_append, List.filter_append]
 cases q : pos (w ++ [heldB n y]) <;> simp [q]
theorem hext_keeps {h hp hp2 : Heap} {u : AV} {sz : Nat} {vs : List AV} (x : HExt h hp) (b : BltN h.next hp u sz vs) (k : Keeps hp hp2 u) : HExt h hp2 := by
 refine ⟨Nat.le_trans x.1 k.1, fun id hid => ?_⟩
 rw [k.2 id (Nat.lt_of_lt_of_le hid x.1) fun o n e => ?_]
 ·exact x.2 id hid
 ·rcases b with ⟨q, _⟩ | ⟨i, q1, _, q3, _⟩
  ·rw [q] at e; cases e
  ·rw [q1] at e; cases e; omega
theorem bltN_row {b : Nat} {h : Heap} {v : AV} {sz k n : Nat} {l : List AV} (q : Blt h v sz l) (e : v = .row k 0 n) (hk : b <= k) : BltN b h v sz l := by
 rcases q with q | ⟨i, q1, q2, q3, q4⟩
 ·exact .inl q
 ·rw [q1] at e
  cases e
  exact .inr ⟨_, q1, q2, hk, q3, q4⟩
theorem wrap_nat {k m : Nat} (h : k < m) (hm : m <= 16777216) : IntKind.i64.wrap ((k : Int) + 1) = ((k + 1 : Nat) : Int) := by
 rw [wrap_small (by omega) (by omega)]
 simp
theorem neq39v (l : List AV) : binV Tryz.prog .neq 39 true (.vslice l) .nilslice = some (.bool true) := by
 simp [binV, eqOp, eqV, isSliceT, whenB, Tryz.underlying39]
theorem neq39n : binV Tryz.prog .neq 39 true .nilslice .nilslice = some (.bool false) := by
 simp [binV, eqOp, eqV, isSliceT, whenB, Tryz.underlying39]
def stpT (pos : List Held -> Bool) (bs : List Bx) (r : List (List Bx)) (now : List Nat) (ws : List (List Held)) (i : Nat) : Option (List Nat) := if now.contains (i + 1) then none else if (waysTo pos (i + 1) bs ws).isEmpty then none else srchT pos r (now ++ [i + 1]) (waysTo pos (i + 1) bs ws)
theorem srchT_cons (pos : List Held -> Bool) (bs : List Bx) (r : List (List Bx)) (now : List Nat) (ws : List (List Held)) : srchT pos (bs :: r) now ws = (List.range 12).findSome? (stpT pos bs r now ws) := rfl
theorem srchT_ne (pos : List Held -> Bool) : ∀ (bss : List (List Bx)) (now : List Nat) (ws : List (List Held)) (s : List Nat), srchT pos bss now ws = some s -> 1 <= now.length + bss.length -> s ≠ [] := by
 intro bss
 induction bss with
 | nil =>
  intro now ws s h hn
  simp only [srchT, Option.some.injEq] at h
  subst h
  intro e
  subst e
  simp at hn
 | cons bs r ih =>
  intro now ws s h hn
  rw [srchT_cons] at h
  obtain ⟨i, _, h1, _⟩ := find_spec h
  unfold stpT at h1
  split at h1
  ·cases h1
  ·split at h1
   ·cases h1
   ·exact ih _ _ _ h1 (by simp; omega)
theorem blt_frz {h : Heap} {v : AV} {sz : Nat} {l : List AV} (b : Blt h v sz l) : ∃ h', freeze h v = some (slN l, h') /\ Keeps h h' v := by
 obtain ⟨h', e, e1, e2⟩ := b.frz1
 obtain ⟨h'', f1, f2, f3⟩ := b.freeze
 rw [e] at f3
 have : h'' = h' := by simpa using (Prod.mk.inj (Option.some.inj f3)).2.symm
 subst this
 exact ⟨h'', f1, Nat.le_of_eq e1.symm, fun id _ hk => e2 id hk⟩
set_option maxHeartbeats 16000000 in
theorem C115 (c : Itr) (hc : c 115 = none) (hc103 : c 103 = some (onHeap h103)) (hc116 : c 116 = some (flatFn sp116)) (hc117 : c 117 = none) (hc118 : c 118 = none)
  (sa ra mv la av : AV) (cx cy wx wy : Sp) (rs : List Rdg) (hr : slV rdgC ra = some rs) (hso : sa.one = true) (hmo : mv.one = true) (hst : isTuple sa = false) (hmt : isTuple mv = false) (hsu : outV (some sa) = some sa) (hmu : outV (some mv) = some mv) (hrl : rs.length <= 1000) (L : Nat) (hL1 : 1 <= L) (hL : L <= 900) (hla : lenS la = some L) (hlo : outV (some la) = some la) (hlt0 : isTuple la = false)
  (pl pa pm ps : Nat) (owns : List AV) (bss0 : List (List Bx)) (hb0 : bss0.length = L) :
  ∀ (bss : List (List Bx)) (now : List Nat) (ws : List (List Held)) (nv wv : AV) (h : Heap), TgE h pl pa pm ps la av [sa, .int .i64 cx.lo, .int .i64 cx.hi, .int .i64 cy.lo, .int .i64 cy.hi, .int .i64 wx.lo, .int .i64 wx.hi, .int .i64 wy.lo, .int .i64 wy.hi, ra, mv] owns bss0 -> NowR h nv now -> RdW h wv ws -> now.length + bss.length = L -> bss0.drop now.length = bss -> (∀ w ∈ ws, w.length = now.length) -> ws.length * prodL bss <= 16000000 ->
   ClR (dX c) 115 (([] ++ [nv, wv]) ++ [.ptr pl 0, .ptr pa 0, .ptr pm 0, .ptr ps 0]) h (tgR h nv (srchT (posH cx cy wx wy rs) bss now ws)) := by
 have hro := sl_out hr
 obtain ⟨hr1, hrt⟩ := sl_one hr
 simp only [isTuple] at hst hmt hlt0 hrt
 intro bss
 induction bss with
 | nil =>
  intro now ws nv wv h hE hN hW hsum _ _ _
  simp only [List.length_nil, Nat.add_zero] at hsum
  have o1 := hN.out
  have o2 := hW.out
  have l1 := hN.len
  have t1 := hN.tup
  simp only [isTuple] at t1
  have gl := hE.gl
  have hd : ((now.length : Int) == (L : Int)) = true := by simp; omega
  have hb : Blt h nv 1 (natsV now) := by
   rcases hN with ⟨_, e⟩ | b
   ·subst e; simp at hsum; omega
   ·exact b
  obtain ⟨h', hfz, hk⟩ := blt_frz hb
  have HK := Lib.hid hk
  clear hE hN hW hsum hb hk
  refine ClR.walk (c := _) hc Tryz.func115 rfl (by kernel_rfl) rfl tgR_fail ?_
  simp only [entryEnv, Nat.reduceAdd, List.nil_append, List.cons_append]
  repeat' (first | refine goS ?_ | refine go2 (fun hh => ?_) (fun hh => ?_) | fail)
  all_goals (simp only [resV_def (X := dX c) Tryz.func115, Tryz.results115]; first | exact J5 | refine J6 ?_)
  exact tgR_ret rfl HK.out
 | cons bs r ih =>
  intro now ws nv wv h hE hN hW hsum hdrop hwl hbound
  rw [List.length_cons] at hsum
  have hd : ((now.length : Int) == (L : Int)) = false := by simp; omega
  have o1 := hN.out
  have o2 := hW.out
  have l1 := hN.len
  have l2 := hW.len
  have t1 := hN.tup
  have t2 := hW.tup
  simp only [isTuple] at t1 t2
  have gl := hE.gl
  have hbs : bss0[now.length]? = some bs := by
   have := congrArg (fun l => l[0]?) hdrop
   simp only [List.getElem?_drop, Nat.add_zero, List.getElem?_cons_zero] at this
   exact this
  have hdr : bss0.drop (now.length + 1) = r := by
   have := congrArg List.tail hdrop
   simpa using this
  rw [prodL_cons] at hbound
  have hwb : ws.length * bs.length <= 16000000 /\ ws.length <= 16000000 /\ ws.length * bs.length * prodL r <= 16000000 := by
   have p := prodL_pos r
   have q1 : ws.length * bs.length * prodL r <= ws.length * ((bs.length + 1) * prodL r) := by
    rw [Nat.mul_assoc]
    exact Nat.mul_le_mul (Nat.le_refl _) (Nat.mul_le_mul (by omega) (Nat.le_refl _))
   have q2 : ws.length * bs.length * 1 <= ws.length * bs.length * prodL r := Nat.mul_le_mul (Nat.le_refl _) p
   have q3 : ws.length * 1 <= ws.length * ((bs.length + 1) * prodL r) := Nat.mul_le_mul (Nat.le_refl _) (by
    have := Nat.mul_le_mul (show 1 <= bs.length + 1 by omega) p
    omega)
   omega
  have hlen : (waysTo (posH cx cy wx wy rs) 0 bs ws).length <= 16000000 \/ True := .inr trivial
  rw [srchT_cons]
  generalize hres : (List.range 12).findSome? (stpT (posH cx cy wx wy rs) bs r now ws) = res
  have HRES := Lib.hid hres
  have HE := Lib.hid hE
  have HN := Lib.hid hN
  have HW := Lib.hid hW
  have HSUM := Lib.hid hsum
  have HBS := Lib.hid hbs
  have HDR := Lib.hid hdr
  have HWL := Lib.hid hwl
  have HWB := Lib.hid hwb
  have IH := Lib.hid ih
  clear hE hN hW hsum hbs hdr hdrop hwl hwb hbound ih hres hlen
  refine ClR.walk (c := _) hc Tryz.func115 rfl (by kernel_rfl) rfl tgR_fail ?_
  simp only [entryEnv, Nat.reduceAdd, List.nil_append, List.cons_append]
  repeat' (first | refine goS ?_ | refine go2 (fun hh => ?_) (fun hh => ?_) | fail)
  refine W.loopN 12 (fun k F => ∃ e lm hp, F = Fr.mk 115 false e lm hp [] none /\ HExt h hp /\ (∀ i, i < k -> stpT (posH cx cy wx wy rs) bs r now ws i = none) /\
   e.get 0 = some nv /\ e.get 1 = some wv /\ e.get 2 = some (.ptr pl 0) /\ e.get 3 = some (.ptr pa 0) /\ e.get 4 = some (.ptr pm 0) /\ e.get 5 = some (.ptr ps 0) /\ e.get 9 = some (.int .i64 ↑(k + 1)) /\ k <= 12) ?_ ?_
  ·refine ⟨_, _, _, rfl, HExt.refl _, fun i hi => absurd hi (by omega), ?_, ?_, ?_, ?_, ?_, ?_, ?_, ?_⟩ <;> first | exact Z2 | simp [go_sem, *]
  clear gl
  rintro k F ⟨e, lm, hp, rfl, hx, hno, h0, h1, h2, h3, h4, h5, h9, hk⟩
  have HX := Lib.hid hx
  have HNO := Lib.hid hno
  clear hx hno
  by_cases hlt : k < 12
  ·have hd2 : decide (((k + 1 : Nat) : Int) <= 12) = true := by simp; omega
   have hw : IntKind.i64.wrap (((k + 1 : Nat) : Int) + 1) = ((k + 1 + 1 : Nat) : Int) := wrap_nat (k := k + 1) (m := 14) (by omega) (by omega)
   have k116 := K116n (X := dX c) hc116 nv now (k + 1) hp (HN.out.ext HX.out) (by have := HSUM.out; unfold maxL; omega)
   have HST := Lib.hid (show stpT (posH cx cy wx wy rs) bs r now ws k = if now.contains (k + 1) then none else if (waysTo (posH cx cy wx wy rs) (k + 1) bs ws).isEmpty then none else srchT (posH cx cy wx wy rs) r (now ++ [k + 1]) (waysTo (posH cx cy wx wy rs) (k + 1) bs ws) from rfl)
   have HLT := Lib.hid hlt
   have hfin : ∀ o, stpT (posH cx cy wx wy rs) bs r now ws k = o -> o = none -> ∀ i, i < k + 1 -> stpT (posH cx cy wx wy rs) bs r now ws i = none := fun o e1 e2 i hi => by
    rcases Nat.lt_or_ge i k with q | q
    ·exact HNO.out i q
    ·obtain rfl : i = k := by omega
     rw [e1, e2]
   have HFIN := Lib.hid hfin
   clear hfin hlt hk
   generalize now.contains (k + 1) = cc at *
   cases cc with
   | true =>
    have hst : stpT (posH cx cy wx wy rs) bs r now ws k = none := by rw [HST.out]; rfl
    have HS2 := Lib.hid hst
    clear hst
    repeat' (first | refine goS ?_ | (apply U6; exact Z1; exact Z1; (focus (simp only [List.nil_append, List.append_nil]; first | exact k116)); simp only [pM, pN, rR, rP]) | refine go2 (fun hh => ?_) (fun hh => ?_) | fail)
    refine ⟨HLT.out, _, _, hp, rfl, HX.out, HFIN.out _ HS2.out rfl, ?_, ?_, ?_, ?_, ?_, ?_, ?_, by have := HLT.out; omega⟩
    all_goals exact Z2
   | false =>
    repeat' (first | refine goS ?_ | (apply U6; exact Z1; exact Z1; (focus (simp only [List.nil_append, List.append_nil]; first | exact k116)); simp only [pM, pN, rR, rP]) | refine go2 (fun hh => ?_) (fun hh => ?_) | fail)
    refine W.loopN ws.length (fun i F => ∃ e lm hp u vs, F = Fr.mk 115 false e lm hp [] none /\ HExt h hp /\ BltN h.next hp u 1 vs /\ ElemsC heldC 5 hp vs (waysTo (posH cx cy wx wy rs) (k + 1) bs (ws.take i)) /\
     e.get 0 = some nv /\ e.get 1 = some wv /\ e.get 2 = some (.ptr pl 0) /\ e.get 3 = some (.ptr pa 0) /\ e.get 4 = some (.ptr pm 0) /\ e.get 5 = some (.ptr ps 0) /\ e.get 9 = some (.int .i64 ↑(k + 1)) /\ e.get 10 = some u /\ e.get 32 = some wv /\ e.get 33 = some (.int .i64 ↑ws.length) /\ e.get 34 = some (.int .i64 ↑i) /\ i <= ws.length) ?_ ?_
    ·refine ⟨_, _, hp, .nilslice, [], rfl, HX.out, BltN.nil, ElemsC.nil, ?_, ?_, ?_, ?_, ?_, ?_, ?_, ?_, ?_, ?_, ?_, ?_⟩ <;> first | exact Z2 | simp [go_sem, *]
    clear h0 h1 h2 h3 h4 h5 h9 k116 HX
    rintro i F ⟨e, lm, hp, u, vs, rfl, hx, hu, hv, h0, h1, h2, h3, h4, h5, h9, h10, h32, h33, h34, hi⟩
    have HX := Lib.hid hx
    have HU := Lib.hid hu
    have HV := Lib.hid hv
    have ou := hu.blt.out
    have lu := hu.blt.len
    have tu := hu.blt.tup
    simp only [isTuple] at tu
    clear hu hv
    by_cases hil : i < ws.length
    ·have hd3 : decide ((i : Int) < (ws.length : Int)) = true := by simpa using hil
     have hw3 := wrap_nat (k := i) (m := ws.length) hil (by have := HWB.out.2.1; omega)
     obtain ⟨w, hwi⟩ := get_some hil
     obtain ⟨rv, hrb, hrd⟩ := HW.out.idx hwi
     obtain ⟨ptr, hix, hme⟩ := hrd hp hx
     have hrb2 := hrb.ext hx
     have orv := hrb2.out
     have trv := hrb2.tup
     have crv := hrb2.cells
     simp only [AV.cells] at crv
     simp only [isTuple] at trv
     have E := HE.out.ext hx
     have ga := E.ga
     obtain ⟨ov, hov⟩ : ∃ ov, owns[now.length]? = some ov := by
      have h1 := (List.getElem?_eq_some_iff.1 HBS.out).1
      exact ⟨_, List.getElem?_eq_getElem (by rw [E.bo.1]; exact h1)⟩
     have hob := E.bo.2 _ _ _ hov HBS.out
     have oov := hob.out
     have tov := hob.tup
     have cov := hob.cells
     have lov := hob.len
     rw [List.length_map] at lov
     simp only [AV.cells] at cov
     simp only [isTuple] at tov
     obtain ⟨ida, hia, hga⟩ := E.ba.idx (P := Tryz.prog) (t := 164) (e := 165) (ag := false) Tryz.underlying164 ty_lay165 (k := now.length) (List.getElem?_eq_some_iff.1 hov).1
     have oav := E.ba.out
     have tav := E.ba.tup
     have cav := E.ba.cells
     simp only [AV.cells] at cav
     simp only [isTuple] at tav
     have HWI := Lib.hid hwi
     have HRB := Lib.hid hrb
     have HOV := Lib.hid hov
     have HIL := Lib.hid hil
     clear hwi hrb hrd hrb2 E hob hil hi hx
     repeat' (first | refine goS ?_ | refine go2 (fun hh => ?_) (fun hh => ?_) | fail)
     refine W.loopN bs.length (fun j F => ∃ e lm hp u vs, F = Fr.mk 115 false e lm hp [] none /\ HExt h hp /\ BltN h.next hp u 1 vs /\ ElemsC heldC 5 hp vs (waysTo (posH cx cy wx wy rs) (k + 1) bs (ws.take i) ++ ((bs.take j).map fun y => w ++ [heldB (k + 1) y]).filter (posH cx cy wx wy rs)) /\
      e.get 0 = some nv /\ e.get 1 = some wv /\ e.get 2 = some (.ptr pl 0) /\ e.get 3 = some (.ptr pa 0) /\ e.get 4 = some (.ptr pm 0) /\ e.get 5 = some (.ptr ps 0) /\ e.get 9 = some (.int .i64 ↑(k + 1)) /\ e.get 10 = some u /\ e.get 12 = some rv /\ e.get 32 = some wv /\ e.get 33 = some (.int .i64 ↑ws.length) /\ e.get 34 = some (.int .i64 ↑i) /\ e.get 42 = some ov /\ e.get 43 = some (.int .i64 ↑bs.length) /\ e.get 44 = some (.int .i64 ↑j) /\ j <= bs.length) ?_ ?_
     ·refine ⟨_, _, hp, u, vs, rfl, HX.out, HU.out, by simpa using HV.out, ?_, ?_, ?_, ?_, ?_, ?_, ?_, ?_, ?_, ?_, ?_, ?_, ?_, ?_, ?_, ?_⟩ <;> first | exact Z2 | simp [go_sem, *]
     clear h0 h1 h2 h3 h4 h5 h9 h10 h32 h33 h34 ou lu tu HX HU HV ga hia hga hix hme
     rintro j F ⟨e, lm, hp, u, vs, rfl, hx, hu, hv, h0, h1, h2, h3, h4, h5, h9, h10, h12, h32, h33, h34, h42, h43, h44, hj⟩
     have HX := Lib.hid hx
     have HU := Lib.hid hu
     have HV := Lib.hid hv
     have ou := hu.blt.out
     have tu := hu.blt.tup
     simp only [isTuple] at tu
     have hvl : vs.length + (0 + 1) <= most := by
      have e1 := hv.1
      have e2 := waysTo_len (posH cx cy wx wy rs) (k + 1) bs (ws.take i)
      have e3 := List.length_filter_le (posH cx cy wx wy rs) ((bs.take j).map fun y => w ++ [heldB (k + 1) y])
      rw [List.length_append] at e1
      rw [List.length_map, List.length_take] at e3
      rw [List.length_take] at e2
      have e4 : min i ws.length * bs.length + bs.length <= ws.length * bs.length := by
       have := HIL.out
       rw [Nat.min_eq_left (by omega), <- Nat.succ_mul]
       exact Nat.mul_le_mul (by omega) (Nat.le_refl _)
      have := HWB.out.1
      unfold most
      omega
     clear hu hv
     by_cases hjl : j < bs.length
     ·have hd4 : decide ((j : Int) < (bs.length : Int)) = true := by simpa using hjl
      have hw4 := wrap_nat (k := j) (m := bs.length) hjl (by
       have e1 := HIL.out
       have e2 := Nat.mul_le_mul (show 1 <= ws.length by omega) (Nat.le_refl bs.length)
       have := HWB.out.1
       omega)
      obtain ⟨y, hy⟩ := get_some hjl
      have E := HE.out.ext hx
      have hob := E.bo.2 _ _ _ HOV.out HBS.out
      obtain ⟨idb, hib, hgb⟩ := hob.idx (P := Tryz.prog) (t := 165) (e := 169) (ag := true) Tryz.underlying165 ty_lay169 (k := j) (by rw [List.length_map]; exact hjl)
      have hat : (bs.map bxC.enc)[j]? = some (.agg [.int .i64 y.x.lo, .int .i64 y.x.hi, .int .i64 y.y.lo, .int .i64 y.y.hi]) := by simp [hy, bxC]
      have gm := E.gm
      have hwlen := HWL.out w (List.mem_of_getElem? HWI.out)
      have hcl0 := C117 c hc117 rv w hp (HRB.out.ext hx) (by have := HSUM.out; omega)
      unfold ClR at hcl0
      obtain ⟨r1, hcl, hcr⟩ := hcl0
      unfold clS at hcr
      obtain ⟨v1, hp1, rfl, hB1, hX1⟩ := hcr
      have hll : w.length + (0 + 1) <= most := by have := HSUM.out; unfold most; omega
      have ov1 := hB1.blt.out
      have tv1 := hB1.blt.tup
      simp only [isTuple] at tv1
      have HB1 := Lib.hid hB1
      have HX1 := Lib.hid hX1
      have HY := Lib.hid hy
      have HJL := Lib.hid hjl
      clear hy E hob hB1 hX1 hjl hj hx
      repeat' (first | (apply W.draw (id := 14) (lc := [0, 1, 2, 3, 4, 5, 6, 7]) (hot := [(1, 3)]); kernel_rfl; kernel_rfl; kernel_rfl; exact Z4) | (refine WD.cons rfl rfl ?_) | (refine WD.nil ⟨?_, ?_⟩; rotate_left; simp only [tN, bN, eN, true_and]) | (refine calmR rfl rfl rfl rfl rfl ?_ ?_; (focus (first | exact Z2 | exact Z1))) | (refine calmE rfl rfl rfl rfl rfl ?_ ?_; (focus (first | exact Z2 | exact Z1))) | (with_reducible refine calmEnd) | (apply U6; exact Z1; exact Z1; (focus (exact hcl)); simp only [pM, pN, rR, rP]) | (apply WO1.appendN (t := 173) (u := 173) (e := 176) (e' := 176) (sz := 5) (tl := []) (b := hp.next) (h0 := hp); (focus (exact HB1.out)); (focus (exact HX1.out)); exact Z1; exact rfl; exact Z2; exact Z2; exact Z2; (focus (exact ty_row173)); exact Z1; (focus (intro v hv; simp at hv; subst hv; rfl)); (focus (simp only [List.length_map, List.length_cons, List.length_nil]; exact hll)); (focus (simp)); (intro v2 hp2 hB2 ho2 hX2; have hc2 := hB2.blt.cells; have ht2 := hB2.blt.tup; simp only [AV.cells] at hc2; simp only [isTuple] at ht2; have HB2 := Lib.hid hB2; have HX2 := Lib.hid hX2; clear hB2 hX2; simp only [pM, pN])) | refine go1 ?_ | refine go2 (fun hh => ?_) (fun hh => ?_) | fail)
      have hB2 := HB2.out
      have e1 : w.map heldC.enc ++ [.agg [.int .i64 ((k + 1 : Nat) : Int), .int .i64 y.x.lo, .int .i64 y.x.hi, .int .i64 y.y.lo, .int .i64 y.y.hi]] = (w ++ [heldB (k + 1) y]).map heldC.enc := by
       rw [List.map_append]; rfl
      rw [e1] at hB2
      have hX2 : HExt hp hp2 := HX2.out
      have hx02 : HExt h hp2 := HX.out.trans hX2
      have gm2 := (HE.out.ext hx02).gm
      have hk103 := K103r (X := dX c) hc103 sa ra mv cx cy wx wy rs hr hso hmo hrl v2 (w ++ [heldB (k + 1) y]) (by rw [List.length_append]; have := HSUM.out; simp; omega) hp2 hB2.blt
      obtain ⟨ka, kb, ek, oka, okb, tka, tkb, cka, ckb⟩ := knV_pos cx cy wx wy rs (w ++ [heldB (k + 1) y])
      rw [ek] at hk103
      have hcl2 : v2.cells.length = 1 := by rw [hB2.blt.cells]; rfl
      have HBU2 := Lib.hid ((HU.out.keep hX2).blt)
      have HUN2 := Lib.hid (HU.out.keep hX2)
      have HV2 := Lib.hid (HV.out.ext hX2)
      have hnx := filt_next (pos := posH cx cy wx wy rs) (n := k + 1) (w := w) HY.out
      have HNX := Lib.hid hnx
      have HBH := Lib.hid hB2.blt
      have HX02 := Lib.hid hx02
      simp only [isTuple] at tka tkb
      simp only [AV.cells] at cka ckb
      clear hB2 e1 hX2 hx02 ek hnx
      generalize posH cx cy wx wy rs (w ++ [heldB (k + 1) y]) = pb at *
      cases pb with
      | false =>
       repeat' (first | (apply W.draw (id := 14) (lc := [0, 1, 2, 3, 4, 5, 6, 7]) (hot := [(1, 3)]); kernel_rfl; kernel_rfl; kernel_rfl; exact Z4) | (refine WD.cons rfl rfl ?_) | (refine WD.nil ⟨?_, ?_⟩; rotate_left; simp only [tN, bN, eN, true_and]) | (refine calmR rfl rfl rfl rfl rfl ?_ ?_; (focus (first | exact Z2 | exact Z1))) | (refine calmE rfl rfl rfl rfl rfl ?_ ?_; (focus (first | exact Z2 | exact Z1))) | (with_reducible refine calmEnd) | (apply U6; exact Z1; exact Z1; (focus (exact hk103)); simp only [pM, pN, rR, rP]) | refine go1 ?_ | refine go2 (fun hh => ?_) (fun hh => ?_) | fail)
       refine ⟨HJL.out, _, _, hp2, u, vs, rfl, HX02.out, HUN2.out, ?_, ?_, ?_, ?_, ?_, ?_, ?_, ?_, ?_, ?_, ?_, ?_, ?_, ?_, ?_, ?_, by have := HJL.out; omega⟩
       ·rw [HNX.out]
        simpa using HV2.out
       all_goals exact Z2
      | true =>
       repeat' (first | (apply W.draw (id := 14) (lc := [0, 1, 2, 3, 4, 5, 6, 7]) (hot := [(1, 3)]); kernel_rfl; kernel_rfl; kernel_rfl; exact Z4) | (refine WD.cons rfl rfl ?_) | (refine WD.nil ⟨?_, ?_⟩; rotate_left; simp only [tN, bN, eN, true_and]) | (refine calmR rfl rfl rfl rfl rfl ?_ ?_; (focus (first | exact Z2 | exact Z1))) | (refine calmE rfl rfl rfl rfl rfl ?_ ?_; (focus (first | exact Z2 | exact Z1))) | (with_reducible refine calmEnd) | (apply U6; exact Z1; exact Z1; (focus (exact hk103)); simp only [pM, pN, rR, rP]) | (apply WO1.appendE (t := 172) (u := 172) (e := 173) (e' := 173) (sz := 1) (tl := []) (hb := HBU2.out); exact Z1; exact rfl; exact Z2; exact Z2; exact Z2; (focus (exact ty_row172)); exact Z1; (focus (intro v hv; simp only [List.mem_singleton] at hv; subst hv; exact hcl2)); (focus (simp only [List.length_cons, List.length_nil]; exact hvl)); (focus (simp)); (intro v3 hp3 hB3 ho3 hK3 hE3; have hc3 := hB3.cells; have ht3 := hB3.tup; simp only [AV.cells] at hc3; simp only [isTuple] at ht3; have HB3 := Lib.hid hB3; have HK3 := Lib.hid hK3; have HE3 := Lib.hid hE3; clear hB3 hK3 hE3; simp only [pM, pN])) | refine go1 ?_ | refine go2 (fun hh => ?_) (fun hh => ?_) | fail)
       have hbh : Blt hp3 v2 5 ((w ++ [heldB (k + 1) y]).map heldC.enc) := HBH.out.other HBU2.out (by omega) HK3.out
       refine ⟨HJL.out, _, _, hp3, v3, vs ++ [v2], rfl, hext_keeps HX02.out HUN2.out HK3.out, bltN_row HB3.out HE3.out HX02.out.1, ?_, ?_, ?_, ?_, ?_, ?_, ?_, ?_, ?_, ?_, ?_, ?_, ?_, ?_, ?_, ?_, by have := HJL.out; omega⟩
       ·rw [HNX.out, if_pos rfl, <- List.append_assoc]
        exact (HV2.out.other HBU2.out (by omega) HK3.out).add hbh
       all_goals exact Z2
     ·have hd4 : decide ((j : Int) < (bs.length : Int)) = false := by simpa using hjl
      have hjj : bs.take j = bs := List.take_of_length_le (by omega)
      have hv2 := HV.out
      rw [hjj, <- waysTo_next HWI.out] at hv2
      have HV2 := Lib.hid hv2
      clear hjj hv2 hjl hj
      repeat' (first | refine goS ?_ | refine go2 (fun hh => ?_) (fun hh => ?_) | fail)
      refine ⟨HIL.out, _, _, hp, u, vs, rfl, HX.out, HU.out, HV2.out, ?_, ?_, ?_, ?_, ?_, ?_, ?_, ?_, ?_, ?_, ?_, by have := HIL.out; omega⟩
      all_goals exact Z2
    ·have hd3 : decide ((i : Int) < (ws.length : Int)) = false := by simpa using hil
     have hii : ws.take i = ws := List.take_of_length_le (by omega)
     have hv2 := HV.out
     rw [hii] at hv2
     have hvl := hv2.1
     have hemp : ((vs.length : Int) == 0) = (waysTo (posH cx cy wx wy rs) (k + 1) bs ws).isEmpty := by
      rw [hvl]
      cases waysTo (posH cx cy wx wy rs) (k + 1) bs ws with
      | nil => rfl
      | cons a l => simp; omega
     have HV2 := Lib.hid hv2
     clear hii hv2 hil hi hvl
     cases hem : (waysTo (posH cx cy wx wy rs) (k + 1) bs ws).isEmpty with
     | true =>
      rw [hem] at hemp
      have hst : stpT (posH cx cy wx wy rs) bs r now ws k = none := by rw [HST.out, hem]; rfl
      have HS2 := Lib.hid hst
      clear hst hem
      repeat' (first | refine goS ?_ | refine go2 (fun hh => ?_) (fun hh => ?_) | fail)
      refine ⟨HLT.out, _, _, hp, rfl, HX.out, HFIN.out _ HS2.out rfl, ?_, ?_, ?_, ?_, ?_, ?_, ?_, by have := HLT.out; omega⟩
      all_goals exact Z2
     | false =>
      rw [hem] at hemp
      have hst : stpT (posH cx cy wx wy rs) bs r now ws k = srchT (posH cx cy wx wy rs) r (now ++ [k + 1]) (waysTo (posH cx cy wx wy rs) (k + 1) bs ws) := by rw [HST.out, hem]; rfl
      have HS2 := Lib.hid hst
      have E := HE.out.ext hx
      have gs := E.gs
      have hcl0 := C118n c hc118 nv now hp (HN.out.ext hx) (by have := HSUM.out; omega)
      unfold ClR at hcl0
      obtain ⟨r1, hcl, hcr⟩ := hcl0
      unfold clN at hcr
      obtain ⟨v1, hp1, rfl, hX1, hB1⟩ := hcr
      have ov1 : outV (some v1) = some v1 := by rcases hB1 with ⟨rfl, _⟩ | b; rfl; exact b.blt.out
      have tv1 : isTuple v1 = false := by rcases hB1 with ⟨rfl, _⟩ | b; rfl; exact b.blt.tup
      simp only [isTuple] at tv1
      have HB1 := Lib.hid (show (v1 = .vempty /\ natsV now = []) \/ Blt hp1 v1 1 (natsV now) by
       rcases hB1 with ⟨q1, q2⟩ | b
       ·exact .inl ⟨q1, by rw [q2]; rfl⟩
       ·exact .inr b.blt)
      have HB1N := Lib.hid hB1
      have HX1 := Lib.hid hX1
      have hll : now.length + (0 + 1) <= most := by have := HSUM.out; unfold most; omega
      have gs1 := (E.ext hX1).gs
      clear hst hem hB1 hX1 E hx
      repeat' (first | (apply W.draw (id := 21) (lc := [0, 1, 2, 3, 4, 5, 6, 7, 8]) (hot := [(0, 2), (0, 5)]); kernel_rfl; kernel_rfl; kernel_rfl; exact Z4) | (apply WD.cons (o := ⟨some 18, _, _, _, _, none⟩); exact rfl; exact rfl) | (refine WD.cons rfl rfl ?_) | (refine WD.nil ⟨?_, ?_⟩; rotate_left; simp only [tN, bN, eN, true_and]) | (refine calmR rfl rfl rfl rfl rfl ?_ ?_; (focus (first | exact Z2 | exact Z1))) | (refine calmE rfl rfl rfl rfl rfl ?_ ?_; (focus (first | exact Z2 | exact Z1))) | (with_reducible refine calmEnd) | (apply U6; exact Z1; exact Z1; (focus (exact hcl)); simp only [pM, pN, rR, rP]) | (apply WO1.appendB (t := 39) (u := 39) (e := 3) (e' := 3) (sz := 1) (tl := []) (hb := HB1.out); exact Z1; exact rfl; exact Z2; exact Z2; exact Z2; (focus (exact ty_row39)); exact Z1; (focus (intro v hv; simp at hv; subst hv; rfl)); (focus (simp only [natsV_len, List.length_cons, List.length_nil]; exact hll)); (focus (simp)); (intro v2 hp2 hB2 ho2 hK2 hE2; have hc2 := hB2.cells; have ht2 := hB2.tup; simp only [AV.cells] at hc2; simp only [isTuple] at ht2; have HB2 := Lib.hid hB2; have HK2 := Lib.hid hK2; have HE2 := Lib.hid hE2; clear hB2 hK2 hE2; simp only [pM, pN])) | refine go1 ?_ | refine go2 (fun hh => ?_) (fun hh => ?_) | fail)
      have hx02 : HExt hp hp2 := by
       refine ⟨Nat.le_trans HX1.out.1 HK2.out.1, fun id hid => ?_⟩
       rw [HK2.out.2 id (Nat.lt_of_lt_of_le hid HX1.out.1) fun o n e => ?_]
       ·exact HX1.out.2 id hid
       ·rcases HB1N.out with ⟨q, _⟩ | ⟨q, _⟩ | ⟨m, q1, _, q3, _⟩
        ·rw [q] at e; cases e
        ·rw [q] at e; cases e
        ·rw [q1] at e; cases e; omega
      have hx2 : HExt h hp2 := HX.out.trans hx02
      have hB2 := HB2.out
      have e1 : natsV now ++ [.int .i64 ((k + 1 : Nat) : Int)] = natsV (now ++ [k + 1]) := by simp [natsV]
      rw [e1] at hB2
      have hrec0 := IH.out (now ++ [k + 1]) (waysTo (posH cx cy wx wy rs) (k + 1) bs ws) v2 u hp2 (HE.out.ext hx2) (.inr hB2) ⟨vs, .inr ((HU.out.blt).ext hx02), HV2.out.ext hx02⟩ (by rw [List.length_append]; have := HSUM.out; simp; omega) (by rw [List.length_append]; exact HDR.out) (fun x hx => by
       obtain ⟨w, hw, y, _, rfl, _⟩ := waysTo_mem.1 hx
       rw [List.length_append, List.length_append, HWL.out w hw]
       rfl) (Nat.le_trans (Nat.mul_le_mul (waysTo_len _ _ _ _) (Nat.le_refl _)) HWB.out.2.2)
      unfold ClR at hrec0
      obtain ⟨r2, hrec, hrr⟩ := hrec0
      unfold tgR at hrr
      obtain ⟨h4, rfl, hk4⟩ := hrr
      have hx4 : HExt h h4 := by
       refine ⟨Nat.le_trans hx2.1 hk4.1, fun id hid => ?_⟩
       rw [hk4.2 id (Nat.lt_of_lt_of_le hid hx2.1) fun o n e => ?_]
       ·exact hx2.2 id hid
       ·have hE := HE2.out
        simp only at hE
        rw [hE] at e
        cases e
        have := HX.out.1
        have := HX1.out.1
        omega
      have hne := fun s (e : srchT (posH cx cy wx wy rs) r (now ++ [k + 1]) (waysTo (posH cx cy wx wy rs) (k + 1) bs ws) = some s) => srchT_ne _ _ _ _ s e (by simp; omega)
      have gs2 := (HE.out.ext hx2).gs
      have HX4 := Lib.hid hx4
      have HNE := Lib.hid hne
      clear hx02 hx2 hB2 e1 hk4 hx4 hne
      generalize srchT (posH cx cy wx wy rs) r (now ++ [k + 1]) (waysTo (posH cx cy wx wy rs) (k + 1) bs ws) = so at *
      cases so with
      | none =>
       simp only [ansV] at hrec
       have q39 := neq39n
       repeat' (first | (apply W.draw (id := 21) (lc := [0, 1, 2, 3, 4, 5, 6, 7, 8]) (hot := [(0, 2), (0, 5)]); kernel_rfl; kernel_rfl; kernel_rfl; exact Z4) | (apply WD.cons (o := ⟨some 18, _, _, _, _, none⟩); exact rfl; exact rfl) | (refine WD.cons rfl rfl ?_) | (refine WD.nil ⟨?_, ?_⟩; rotate_left; simp only [tN, bN, eN, true_and]) | (refine calmR rfl rfl rfl rfl rfl ?_ ?_; (focus (first | exact Z2 | exact Z1))) | (refine calmE rfl rfl rfl rfl rfl ?_ ?_; (focus (first | exact Z2 | exact Z1))) | (with_reducible refine calmEnd) | (apply U6; exact Z1; exact Z1; (focus (exact hrec)); simp only [pM, pN, rR, rP]) | refine go1 ?_ | refine go2 (fun hh => ?_) (fun hh => ?_) | fail)
       refine ⟨HLT.out, _, _, h4, rfl, HX4.out, HFIN.out _ HS2.out rfl, ?_, ?_, ?_, ?_, ?_, ?_, ?_, by have := HLT.out; omega⟩
       all_goals exact Z2
      | some s =>
       have hsn := HNE.out s rfl
       have hsv : slN (natsV s) = .vslice (natsV s) := by
        cases s with
        | nil => exact absurd rfl hsn
        | cons a l => rfl
       simp only [ansV, hsv] at hrec
       have q39 := neq39v (natsV s)
       have hrs : res = some s := by rw [<- HRES.out]; exact find_some HNO.out HS2.out HLT.out
       have HSV := Lib.hid hsv
       clear hsn hsv
       repeat' (first | (apply W.draw (id := 21) (lc := [0, 1, 2, 3, 4, 5, 6, 7, 8]) (hot := [(0, 2), (0, 5)]); kernel_rfl; kernel_rfl; kernel_rfl; exact Z4) | (apply WD.cons (o := ⟨some 18, _, _, _, _, none⟩); exact rfl; exact rfl) | (refine WD.cons rfl rfl ?_) | (refine WD.nil ⟨?_, ?_⟩; rotate_left; simp only [tN, bN, eN, true_and]) | (refine calmR rfl rfl rfl rfl rfl ?_ ?_; (focus (first | exact Z2 | exact Z1))) | (refine calmE rfl rfl rfl rfl rfl ?_ ?_; (focus (first | exact Z2 | exact Z1))) | (with_reducible refine calmEnd) | (apply U6; exact Z1; exact Z1; (focus (exact hrec)); simp only [pM, pN, rR, rP]) | refine go1 ?_ | refine go2 (fun hh => ?_) (fun hh => ?_) | fail)
       all_goals (simp only [resV_def (X := dX c) Tryz.func115, Tryz.results115]; first | exact J5 | refine J6 ?_)
       refine tgR_ret HSV.out.symm ⟨HX4.out.1, fun id hid _ => HX4.out.2 id hid⟩
  ·have hd2 : decide (((k + 1 : Nat) : Int) <= 12) = false := by simp; omega
   have hk12 : k = 12 := by omega
   have hrs : res = none := by
    rw [<- HRES.out]
    exact find_none fun j hj => HNO.out j (by omega)
   clear hlt hk hk12
   repeat' (first | refine goS ?_ | refine go2 (fun hh => ?_) (fun hh => ?_) | fail)
   all_goals (simp only [resV_def (X := dX c) Tryz.func115, Tryz.results115]; first | exact J5 | refine J6 ?_)
   exact tgR_ret rfl ⟨HX.out.1, fun id hid _ => HX.out.2 id hid⟩
end Go.AM
namespace Go.AM
open Go Go.Proofs
variable [Keep]
attribute [local irreducible] W WO WO1 WD WQ WT thenQ blockQ endR isRet retK Cl ClR
attribute [local irreducible] roundQ RdR clR boundsS machB boxL suitB bothV axisV refBoxes
theorem lev_small4 {n : Nat} (h : n <= 4) : (lev n n).length <= 24 := by
 match n, h with
 | 0, _ => decide
 | 1, _ => decide
 | 2, _ => decide
 | 3, _ => decide
 | 4, _ => decide
theorem refTo_lenB (err : Int) (ss hs : List Pt) (t : Nat) : ∀ (os : List (List Nat)) (out : List Bx), (refTo err ss hs t os out).length <= out.length + os.length := by
 intro os
 induction os with
 | nil => intro out; exact Nat.le_refl _
 | cons o r ih =>
  intro out
  have h1 := ih (addB out (refBx err ss hs t o ss.length))
  have h2 := addB_len out (refBx err ss hs t o ss.length)
  have e : refTo err ss hs t (o :: r) out = refTo err ss hs t r (addB out (refBx err ss hs t o ss.length)) := rfl
  rw [e, List.length_cons]
  omega
theorem refBoxes_lenB (err : Int) {ss hs : List Pt} (h : ss.length <= 4) : ∀ k, (refBoxes err ss hs k).length <= 24 * k := by
 intro k
 induction k with
 | zero => unfold refBoxes; simp
 | succ k ih =>
  rw [refBoxes_succ]
  have h1 := refTo_lenB err ss hs k (lev ss.length ss.length) (refBoxes err ss hs k)
  have h2 := lev_small4 h
  omega
theorem any_ref {err : Int} {ss hs : List Pt} {cx cy wx wy : Sp} {rs : List Rdg} (h : suitB (machB ss cx cy wx wy rs) ss hs err = true) (p : Bx -> Bool) : (refBoxes err ss hs 8).any p = (boxL err ss hs).any p /\ ∀ y ∈ refBoxes err ss hs 8, BdB y := by
 obtain ⟨h1, h2, h3, h4, h5⟩ := suit_pts h
 rw [refBoxes_dd h1 h2 h3 h4 h5]
 refine ⟨dd_any p _, fun y hy => ?_⟩
 rw [dd_mem] at hy
 rcases hy with q | q
 ·cases q
 ·exact (boxL_bd h1 h2 h3 h4 h5 y q).1
end Go.AM
