/-
  Texts of the proof: an evaluator of the program's code, its soundness, contracts of functions.
-/
import Derived.Test.YtlhcjccaimmhgaaGreatDoorSAK
import Derived.Test.YtlhcjccaimmhgaaGreatDoorSAG
import Derived.Test.YtlhcjccaimmhgaaGreatDoorSAH
import Derived.Test.YtlhcjccaimmhgaaGreatDoorSAI
set_option linter.unusedSimpArgs false
set_option linter.unusedVariables false
set_option linter.unusedSectionVars false
namespace Go.AM
open Go
variable [Keep]
attribute [local irreducible] matchS boundsS machB measB askOk rsAll rfAll bestP bestTo sureW gaugeN
theorem max_max (a b : Int) : maxV a b = max a b := by unfold maxV; split <;> omega
theorem min_min (a b : Int) : minV a b = min a b := by unfold minV; split <;> omega
def nearP (off : Int) (p q : Pt) : Prop := -off ≤ p.x - q.x ∧ p.x - q.x ≤ off ∧ -off ≤ p.y - q.y ∧ p.y - q.y ≤ off
theorem off_near {off : Int} {p q : Pt} (h0 : 0 ≤ off) (h6 : off ≤ 6) (hp : okPt 80 p = true) (hq : okPt 80 q = true) : offB off p q = true ↔ nearP off p q := by
 rw [off_eq h0 h6 hp hq]
 rw [ok80] at hp hq
 have e1 : w64 (p.x - q.x) = p.x - q.x := wrap_small (by omega) (by omega)
 have e2 : w64 (q.x - p.x) = q.x - p.x := wrap_small (by omega) (by omega)
 have e3 : w64 (p.y - q.y) = p.y - q.y := wrap_small (by omega) (by omega)
 have e4 : w64 (q.y - p.y) = q.y - p.y := wrap_small (by omega) (by omega)
 rw [e1, e2, e3, e4]
 simp only [Bool.and_eq_true, Bool.not_eq_true', decide_eq_false_iff_not, nearP]
 omega
theorem near_lin {t : Nat} (ht : t < 8) (off : Int) (p q : Pt) : nearP off (lin t p) q ↔ nearP off p (lin (backN t) q) := by
 obtain ⟨x, y⟩ := p
 obtain ⟨a, b⟩ := q
 rcases lt8 ht with rfl | rfl | rfl | rfl | rfl | rfl | rfl | rfl <;> simp [backN, lin, nearP] <;> omega
theorem getD_in {α : Type} {l : List α} {i : Nat} (d : α) (h : i < l.length) : l.getD i d ∈ l := by
 rw [List.getD, List.getElem?_eq_getElem h]
 exact List.getElem_mem h
theorem ok_at {l : List Pt} {m : Int} (h : l.all (okPt m) = true) {i : Nat} (hi : i < l.length) : okPt m (l.getD i ⟨0, 0⟩) = true := List.all_eq_true.1 h _ (getD_in _ hi)
theorem okP20 {p : Pt} : okPt 20 p = true ↔ (-20 ≤ p.x ∧ p.x ≤ 20) ∧ (-20 ≤ p.y ∧ p.y ≤ 20) := by
 have : w64 (-20) = -20 := rfl
 simp only [okPt, inB, this, Bool.and_eq_true, decide_eq_true_eq]
theorem moved_at {l : List Pt} {x y : Int} {v : Nat} (hv : v < l.length) : (movedL l x y).getD v ⟨0, 0⟩ = ⟨w64 ((l.getD v ⟨0, 0⟩).x + x), w64 ((l.getD v ⟨0, 0⟩).y + y)⟩ := by
 unfold movedL
 rw [List.getD, List.getElem?_map, List.getElem?_eq_getElem hv, List.getD, List.getElem?_eq_getElem hv]
 rfl
theorem acc_near {off : Int} {hs l : List Pt} {x y : Int} {t : Nat} {o : List Nat} (h0 : 0 ≤ off) (h6 : off ≤ 6) (hh : hs.all (okPt 80) = true) (hl : l.all (okPt 20) = true) (hx : -48 ≤ x ∧ x ≤ 48) (hy : -48 ≤ y ∧ y ≤ 48) (ht : t < 8) (hn : hs.length = l.length) (ho : IsOrd l.length o) :
  accB off hs (movedL l x y) (t : Nat) o = true ↔ ∀ i, i < hs.length → nearP off ⟨(l.getD (o.getD i 0) ⟨0, 0⟩).x + x, (l.getD (o.getD i 0) ⟨0, 0⟩).y + y⟩ (lin (backN t) (hs.getD i ⟨0, 0⟩)) := by
 unfold accB
 rw [List.all_eq_true]
 have key : ∀ i, i < hs.length → (offB off (turnP (t : Nat) ((movedL l x y).getD (o.getD i 0) ⟨0, 0⟩)) (hs.getD i ⟨0, 0⟩) = true ↔ nearP off ⟨(l.getD (o.getD i 0) ⟨0, 0⟩).x + x, (l.getD (o.getD i 0) ⟨0, 0⟩).y + y⟩ (lin (backN t) (hs.getD i ⟨0, 0⟩))) := by
  intro i hi
  have hv : o.getD i 0 < l.length := ho.lt _ (getD_in _ (by rw [ho.len]; omega))
  have hp := okP20.1 (ok_at hl hv)
  rw [moved_at hv]
  generalize l.getD (o.getD i 0) ⟨0, 0⟩ = p at *
  have e1 : w64 (p.x + x) = p.x + x := wrap_small (by omega) (by omega)
  have e2 : w64 (p.y + y) = p.y + y := wrap_small (by omega) (by omega)
  rw [e1, e2]
  have hok : okPt 80 ⟨p.x + x, p.y + y⟩ = true := ok80.2 ⟨⟨by simp only; omega, by simp only; omega⟩, ⟨by simp only; omega, by simp only; omega⟩⟩
  rw [turn_lin ht hok, off_near h0 h6 (lin_ok ht hok) (ok_at hh hi), near_lin ht]
 constructor
 ·intro h i hi
  exact (key i hi).1 (h i (List.mem_range.2 hi))
 ·intro h i hi
  exact (key i (List.mem_range.1 hi)).2 (h i (List.mem_range.1 hi))
structure Spd (l : List Sp) : Prop where
 len : l.length = 13
 ne : ∀ j, j ≤ 12 → (l.getD j ⟨0, 0⟩).lo ≤ (l.getD j ⟨0, 0⟩).hi
 small : ∀ j, j ≤ 12 → -48 ≤ (l.getD j ⟨0, 0⟩).lo ∧ (l.getD j ⟨0, 0⟩).hi ≤ 48
theorem spd_mach {st : List Pt} {cx cy wx wy : Sp} {rs : List Rdg} (h : machB st cx cy wx wy rs = true) {a b : List Sp} (ha : boundsS (ax0 cx wx rs []) = some a) (hb : boundsS (ax1 cy wy rs []) = some b) : Spd a ∧ Spd b := by
 have e1 : ax0 cx wx rs [] = ⟨cx, wx, lims155 rs⟩ := by simp [ax0]
 have e2 : ax1 cy wy rs [] = ⟨cy, wy, lims156 rs⟩ := by simp [ax1]
 rw [e1] at ha
 rw [e2] at hb
 have b1 := bnd_of (good_x h) ha
 have b2 := bnd_of (good_y h) hb
 exact ⟨⟨b1.len, b1.ne, b1.small⟩, ⟨b2.len, b2.ne, b2.small⟩⟩
theorem hull_fold : ∀ (L : List Sp) (a : Sp), ((L.foldl hullS a).lo ≤ a.lo ∧ a.hi ≤ (L.foldl hullS a).hi ∧ ∀ s ∈ L, (L.foldl hullS a).lo ≤ s.lo ∧ s.hi ≤ (L.foldl hullS a).hi) ∧ ((L.foldl hullS a).lo = a.lo ∨ ∃ s ∈ L, (L.foldl hullS a).lo = s.lo) ∧ ((L.foldl hullS a).hi = a.hi ∨ ∃ s ∈ L, (L.foldl hullS a).hi = s.hi) := by
 intro L
 induction L with
 | nil => intro a; exact ⟨⟨Int.le_refl _, Int.le_refl _, fun s h => by cases h⟩, .inl rfl, .inl rfl⟩
 | cons x L ih =>
  intro a
  rw [List.foldl_cons]
  obtain ⟨⟨h1, h2, h3⟩, h4, h5⟩ := ih (hullS a x)
  have e1 : (hullS a x).lo = min a.lo x.lo := by unfold hullS; exact min_min _ _
  have e2 : (hullS a x).hi = max a.hi x.hi := by unfold hullS; exact max_max _ _
  generalize L.foldl hullS (hullS a x) = R at *
  rw [e1] at h1 h4
  rw [e2] at h2 h5
  have g1 : R.lo ≤ a.lo ∧ R.lo ≤ x.lo := by clear h3 h4 h5 ih; omega
  have g2 : a.hi ≤ R.hi ∧ x.hi ≤ R.hi := by clear h3 h4 h5 ih; omega
  refine ⟨⟨g1.1, g2.1, fun s hs => ?_⟩, ?_, ?_⟩
  ·rcases List.mem_cons.1 hs with rfl | hs
   ·exact ⟨g1.2, g2.2⟩
   ·exact h3 s hs
  ·rcases h4 with h4 | ⟨s, hs, h4⟩
   ·rcases Int.le_total a.lo x.lo with q | q
    ·exact .inl (by omega)
    ·exact .inr ⟨x, by simp, by omega⟩
   ·exact .inr ⟨s, by simp [hs], h4⟩
  ·rcases h5 with h5 | ⟨s, hs, h5⟩
   ·rcases Int.le_total x.hi a.hi with q | q
    ·exact .inl (by omega)
    ·exact .inr ⟨x, by simp, by omega⟩
   ·exact .inr ⟨s, by simp [hs], h5⟩
theorem cut_mem {l : List Sp} (h13 : l.length = 13) {n : Nat} (hn : n ≤ 12) {s : Sp} : s ∈ (l.drop 1).take n ↔ ∃ j, 1 ≤ j ∧ j ≤ n ∧ l.getD j ⟨0, 0⟩ = s := by
 constructor
 ·intro h
  obtain ⟨k, hk, e⟩ := List.mem_iff_getElem.1 h
  rw [List.length_take, List.length_drop, h13] at hk
  refine ⟨k + 1, by omega, by omega, ?_⟩
  rw [List.getElem_take, List.getElem_drop] at e
  rw [List.getD, List.getElem?_eq_getElem (by omega), Option.getD_some, ← e]
  congr 1
  omega
 ·rintro ⟨j, h1, h2, rfl⟩
  refine List.mem_iff_getElem.2 ⟨j - 1, by rw [List.length_take, List.length_drop, h13]; omega, ?_⟩
  rw [List.getElem_take, List.getElem_drop, List.getD, List.getElem?_eq_getElem (by omega), Option.getD_some]
  congr 1
  omega
theorem hull_is {l : List Sp} (g : Spd l) {n : Nat} (h1 : 1 ≤ n) (hn : n ≤ 12) : (∀ j, 1 ≤ j → j ≤ n → (hullL l n).lo ≤ (l.getD j ⟨0, 0⟩).lo ∧ (l.getD j ⟨0, 0⟩).hi ≤ (hullL l n).hi) ∧ (∃ j, 1 ≤ j ∧ j ≤ n ∧ (hullL l n).lo = (l.getD j ⟨0, 0⟩).lo) ∧ (∃ j, 1 ≤ j ∧ j ≤ n ∧ (hullL l n).hi = (l.getD j ⟨0, 0⟩).hi) := by
 obtain ⟨⟨_, _, q3⟩, q4, q5⟩ := hull_fold ((l.drop 1).take n) (l.getD 1 ⟨0, 0⟩)
 have e : hullL l n = ((l.drop 1).take n).foldl hullS (l.getD 1 ⟨0, 0⟩) := rfl
 rw [← e] at q3 q4 q5
 refine ⟨fun j h2 h3 => q3 _ ((cut_mem g.len hn).2 ⟨j, h2, h3, rfl⟩), ?_, ?_⟩
 ·rcases q4 with q | ⟨s, hs, q⟩
  ·exact ⟨1, by omega, by omega, q⟩
  ·obtain ⟨j, h2, h3, rfl⟩ := (cut_mem g.len hn).1 hs
   exact ⟨j, h2, h3, q⟩
 ·rcases q5 with q | ⟨s, hs, q⟩
  ·exact ⟨1, by omega, by omega, q⟩
  ·obtain ⟨j, h2, h3, rfl⟩ := (cut_mem g.len hn).1 hs
   exact ⟨j, h2, h3, q⟩
theorem hull_small {l : List Sp} (g : Spd l) {n : Nat} (h1 : 1 ≤ n) (hn : n ≤ 12) : -48 ≤ (hullL l n).lo ∧ (hullL l n).lo ≤ 48 ∧ -48 ≤ (hullL l n).hi ∧ (hullL l n).hi ≤ 48 := by
 obtain ⟨_, ⟨j, a1, a2, a3⟩, ⟨k, b1, b2, b3⟩⟩ := hull_is g h1 hn
 have := g.small j (by omega)
 have := g.ne j (by omega)
 have := g.small k (by omega)
 have := g.ne k (by omega)
 omega
def stdyB (off : Int) (hs l : List Pt) (a b : List Sp) (t : Int) (o : List Nat) (j : Nat) : Bool := accB off hs (movedL l (a.getD j ⟨0, 0⟩).lo (b.getD j ⟨0, 0⟩).lo) t o && accB off hs (movedL l (a.getD j ⟨0, 0⟩).hi (b.getD j ⟨0, 0⟩).hi) t o
def fitP (off : Int) (bx : Bx) (g p : Pt) : Prop := (g.x - off - bx.x.lo ≤ p.x ∧ p.x ≤ g.x + off - bx.x.hi) ∧ (g.y - off - bx.y.lo ≤ p.y ∧ p.y ≤ g.y + off - bx.y.hi)
section
variable {off : Int} {hs l : List Pt} {a b : List Sp} {t n : Nat} {o : List Nat}
theorem steady_box (h0 : 0 ≤ off) (h6 : off ≤ 6) (hh : hs.all (okPt 80) = true) (hl : l.all (okPt 20) = true) (ht : t < 8) (hn : hs.length = l.length) (ho : IsOrd l.length o) (ga : Spd a) (gb : Spd b) (h1 : 1 ≤ n) (h12 : n ≤ 12)
  (h : ∀ j, 1 ≤ j → j ≤ n → stdyB off hs l a b (t : Nat) o j = true) : ∀ i, i < hs.length → fitP off (boxH a b n) (lin (backN t) (hs.getD i ⟨0, 0⟩)) (l.getD (o.getD i 0) ⟨0, 0⟩) := by
 intro i hi
 have at' : ∀ j, 1 ≤ j → j ≤ n → nearP off ⟨(l.getD (o.getD i 0) ⟨0, 0⟩).x + (a.getD j ⟨0, 0⟩).lo, (l.getD (o.getD i 0) ⟨0, 0⟩).y + (b.getD j ⟨0, 0⟩).lo⟩ (lin (backN t) (hs.getD i ⟨0, 0⟩)) ∧ nearP off ⟨(l.getD (o.getD i 0) ⟨0, 0⟩).x + (a.getD j ⟨0, 0⟩).hi, (l.getD (o.getD i 0) ⟨0, 0⟩).y + (b.getD j ⟨0, 0⟩).hi⟩ (lin (backN t) (hs.getD i ⟨0, 0⟩)) := by
  intro j q1 q2
  have q := h j q1 q2
  unfold stdyB at q
  rw [Bool.and_eq_true] at q
  have a1 := ga.small j (by omega)
  have a2 := ga.ne j (by omega)
  have b1 := gb.small j (by omega)
  have b2 := gb.ne j (by omega)
  exact ⟨(acc_near h0 h6 hh hl ⟨by omega, by omega⟩ ⟨by omega, by omega⟩ ht hn ho).1 q.1 i hi, (acc_near h0 h6 hh hl ⟨by omega, by omega⟩ ⟨by omega, by omega⟩ ht hn ho).1 q.2 i hi⟩
 generalize l.getD (o.getD i 0) ⟨0, 0⟩ = p at *
 generalize lin (backN t) (hs.getD i ⟨0, 0⟩) = g at *
 obtain ⟨_, ⟨j1, a1, a2, a3⟩, ⟨j2, a4, a5, a6⟩⟩ := hull_is ga h1 h12
 obtain ⟨_, ⟨j3, b1, b2, b3⟩, ⟨j4, b4, b5, b6⟩⟩ := hull_is gb h1 h12
 have c1 := (at' j1 a1 a2).1
 have c2 := (at' j2 a4 a5).2
 have c3 := (at' j3 b1 b2).1
 have c4 := (at' j4 b4 b5).2
 simp only [nearP] at c1 c2 c3 c4
 simp only [fitP, boxH]
 omega
theorem fit_near {bx : Bx} {g p : Pt} {x y : Int} (h : fitP off bx g p) (hx : bx.x.lo ≤ x ∧ x ≤ bx.x.hi) (hy : bx.y.lo ≤ y ∧ y ≤ bx.y.hi) : nearP off ⟨p.x + x, p.y + y⟩ g := by
 simp only [fitP] at h
 simp only [nearP]
 omega
end
theorem into_in {n lo hi : Int} (h : intoB ⟨lo, hi⟩ = true) : (lo ≤ intoV n ⟨lo, hi⟩ ∧ intoV n ⟨lo, hi⟩ ≤ hi) ∧ -20 ≤ intoV n ⟨lo, hi⟩ ∧ intoV n ⟨lo, hi⟩ ≤ 20 := by
 unfold intoB at h
 unfold intoV
 simp only [max_max, min_min, decide_eq_true_eq] at h ⊢
 omega
theorem into_yes {p lo hi : Int} (h1 : lo ≤ p) (h2 : p ≤ hi) (h3 : -20 ≤ p) (h4 : p ≤ 20) : intoB ⟨lo, hi⟩ = true := by
 unfold intoB
 simp only [max_max, min_min, decide_eq_true_eq]
 omega
theorem into_best {n p lo hi : Int} (h1 : lo ≤ p) (h2 : p ≤ hi) (h3 : -20 ≤ p) (h4 : p ≤ 20) : maxV (intoV n ⟨lo, hi⟩ - n) (n - intoV n ⟨lo, hi⟩) ≤ maxV (p - n) (n - p) ∧ (maxV (intoV n ⟨lo, hi⟩ - n) (n - intoV n ⟨lo, hi⟩) = maxV (p - n) (n - p) → p = intoV n ⟨lo, hi⟩) ∧ (p = n → intoV n ⟨lo, hi⟩ = n) := by
 unfold intoV
 simp only [max_max, min_min]
 omega
theorem rsX_is {off g : Int} {b : Sp} (h0 : 0 ≤ off) (h6 : off ≤ 6) (hg : -80 ≤ g ∧ g ≤ 80) (hb : -48 ≤ b.lo ∧ b.lo ≤ 48 ∧ -48 ≤ b.hi ∧ b.hi ≤ 48) : rsX off g b = ⟨g - off - b.lo, g + off - b.hi⟩ := by
 have e1 : w64 (g - off) = g - off := wrap_small (by omega) (by omega)
 have e2 : w64 (g + off) = g + off := wrap_small (by omega) (by omega)
 have e3 : w64 (g - off - b.lo) = g - off - b.lo := wrap_small (by omega) (by omega)
 have e4 : w64 (g + off - b.hi) = g + off - b.hi := wrap_small (by omega) (by omega)
 unfold rsX
 rw [e1, e2, e3, e4]
def smallBx (bx : Bx) : Prop := (-48 ≤ bx.x.lo ∧ bx.x.lo ≤ 48 ∧ -48 ≤ bx.x.hi ∧ bx.x.hi ≤ 48) ∧ (-48 ≤ bx.y.lo ∧ bx.y.lo ≤ 48 ∧ -48 ≤ bx.y.hi ∧ bx.y.hi ≤ 48)
section
variable {off : Int} {bx : Bx} {g p s : Pt}
theorem fit_ok (h0 : 0 ≤ off) (h6 : off ≤ 6) (hg : okPt 80 g = true) (hb : smallBx bx) (hp : okPt 20 p = true) (h : fitP off bx g p) : rsOk off bx g = true := by
 have q := okP20.1 hp
 have r := ok80.1 hg
 unfold rsOk
 rw [rsX_is h0 h6 r.1 hb.1, rsX_is h0 h6 r.2 hb.2, Bool.and_eq_true]
 exact ⟨into_yes h.1.1 h.1.2 q.1.1 q.1.2, into_yes h.2.1 h.2.2 q.2.1 q.2.2⟩
theorem rs_fit (h0 : 0 ≤ off) (h6 : off ≤ 6) (hg : okPt 80 g = true) (hb : smallBx bx) (h : rsOk off bx g = true) : fitP off bx g (rsPt off bx g s) ∧ okPt 20 (rsPt off bx g s) = true := by
 have r := ok80.1 hg
 unfold rsOk at h
 unfold rsPt
 rw [rsX_is h0 h6 r.1 hb.1, rsX_is h0 h6 r.2 hb.2, Bool.and_eq_true] at h
 rw [rsX_is h0 h6 r.1 hb.1, rsX_is h0 h6 r.2 hb.2]
 have q1 := into_in (n := s.x) h.1
 have q2 := into_in (n := s.y) h.2
 exact ⟨⟨q1.1, q2.1⟩, okP20.2 ⟨q1.2, q2.2⟩⟩
theorem rs_best (h0 : 0 ≤ off) (h6 : off ≤ 6) (hg : okPt 80 g = true) (hb : smallBx bx) (hp : okPt 20 p = true) (h : fitP off bx g p) : dN (rsPt off bx g s) s ≤ dN p s ∧ dW (rsPt off bx g s) s ≤ dW p s ∧ (dW (rsPt off bx g s) s = dW p s → p = rsPt off bx g s) := by
 have q := okP20.1 hp
 have r := ok80.1 hg
 have e : rsPt off bx g s = ⟨intoV s.x ⟨g.x - off - bx.x.lo, g.x + off - bx.x.hi⟩, intoV s.y ⟨g.y - off - bx.y.lo, g.y + off - bx.y.hi⟩⟩ := by
  unfold rsPt
  rw [rsX_is h0 h6 r.1 hb.1, rsX_is h0 h6 r.2 hb.2]
 rw [e]
 obtain ⟨a1, a2, a3⟩ := into_best (n := s.x) h.1.1 h.1.2 q.1.1 q.1.2
 obtain ⟨b1, b2, b3⟩ := into_best (n := s.y) h.2.1 h.2.2 q.2.1 q.2.2
 generalize intoV s.x ⟨g.x - off - bx.x.lo, g.x + off - bx.x.hi⟩ = x at *
 generalize intoV s.y ⟨g.y - off - bx.y.lo, g.y + off - bx.y.hi⟩ = y at *
 refine ⟨?_, ?_, ?_⟩
 ·unfold dN
  by_cases c : p = s
  ·rw [if_pos c]
   subst c
   rw [if_pos (by rw [a3 rfl, b3 rfl])]
   exact Int.le_refl _
  ·rw [if_neg c]
   split <;> omega
 ·simp only [dW]
  omega
 ·simp only [dW]
  intro c
  have c1 := a2 (by omega)
  have c2 := b2 (by omega)
  rw [← c1, ← c2]
end
section
variable {off : Int} {t : Nat} {hs st : List Pt} {o : List Nat} {b : Bx}
theorem rsGo_pt (hd : o.Nodup) (ho : ∀ v ∈ o, v < st.length) : ∀ n r, n ≤ o.length → rsGo off t hs st o b n = some r → ∀ i, i < n → rsOk off b (rsG t hs i) = true ∧ r.st.getD (o.getD i 0) ⟨0, 0⟩ = rsPt off b (rsG t hs i) (st.getD (o.getD i 0) ⟨0, 0⟩) := by
 intro n
 induction n with
 | zero => intro r _ _ i hi; omega
 | succ n ih =>
  intro r' hn h i hi
  unfold rsGo at h
  split at h
  ·cases h
  ·rename_i r hr
   split at h
   ·rename_i hok
    have h := Option.some.inj h
    have hvl : o.getD n 0 < r.st.length := by rw [rsGo_len hr]; exact ho _ (getD_in _ (by omega))
    have hst' : r'.st = r.st.set (o.getD n 0) (rsPt off b (rsG t hs n) (st.getD (o.getD n 0) ⟨0, 0⟩)) := by rw [← h]; exact rsAdd_st _ _ _ _
    rw [hst', pts_set hvl]
    by_cases e : i = n
    ·subst e
     exact ⟨hok, if_pos rfl⟩
    ·have hne : o.getD i 0 ≠ o.getD n 0 := by
      intro q
      rw [List.getD, List.getD, List.getElem?_eq_getElem (by omega), List.getElem?_eq_getElem (by omega)] at q
      simp only [Option.getD_some] at q
      exact e ((List.getElem_inj hd).1 q)
     rw [if_neg hne]
     exact ih r (by omega) hr i (by omega)
   ·cases h
theorem rsGo_some : ∀ n, (∀ i, i < n → rsOk off b (rsG t hs i) = true) → ∃ r, rsGo off t hs st o b n = some r := by
 intro n
 induction n with
 | zero => intro _; exact ⟨_, rfl⟩
 | succ n ih =>
  intro h
  obtain ⟨r, hr⟩ := ih fun i hi => h i (by omega)
  unfold rsGo
  rw [hr]
  simp only [h n (by omega), if_true]
  exact ⟨_, rfl⟩
end
theorem ord_at {n : Nat} (hn : n ≤ 4) {o : List Nat} (h : IsOrd n o) {j : Nat} (hj : j < n) : ∃ i, i < n ∧ o.getD i 0 = j := by
 have hl := h.len
 have hd := h.nd
 have hlt := h.lt
 rcases o with _ | ⟨a, _ | ⟨b, _ | ⟨c, _ | ⟨d, _ | ⟨e, o⟩⟩⟩⟩⟩ <;> simp only [List.length_cons, List.length_nil] at hl <;> simp [List.nodup_cons] at hd hlt
 ·omega
 ·exact ⟨0, by omega, by simp; omega⟩
 ·have : j = a ∨ j = b := by omega
  rcases this with rfl | rfl
  ·exact ⟨0, by omega, rfl⟩
  ·exact ⟨1, by omega, rfl⟩
 ·have : j = a ∨ j = b ∨ j = c := by omega
  rcases this with rfl | rfl | rfl
  ·exact ⟨0, by omega, rfl⟩
  ·exact ⟨1, by omega, rfl⟩
  ·exact ⟨2, by omega, rfl⟩
 ·have : j = a ∨ j = b ∨ j = c ∨ j = d := by omega
  rcases this with rfl | rfl | rfl | rfl
  ·exact ⟨0, by omega, rfl⟩
  ·exact ⟨1, by omega, rfl⟩
  ·exact ⟨2, by omega, rfl⟩
  ·exact ⟨3, by omega, rfl⟩
 ·omega
theorem sum_le {f g : Nat → Int} : ∀ n, (∀ j, j < n → f j ≤ g j) → sumTo f n ≤ sumTo g n := by
 intro n
 induction n with
 | zero => intro _; exact Int.le_refl _
 | succ n ih =>
  intro h
  have h1 := ih fun j hj => h j (by omega)
  have h2 := h n (by omega)
  show sumTo f n + f n ≤ sumTo g n + g n
  omega
theorem sum_eq {f g : Nat → Int} : ∀ n, (∀ j, j < n → f j ≤ g j) → sumTo f n = sumTo g n → ∀ j, j < n → f j = g j := by
 intro n
 induction n with
 | zero => intro _ _ j hj; omega
 | succ n ih =>
  intro h e j hj
  have h1 := sum_le n fun j hj => h j (by omega)
  have h2 := h n (by omega)
  have e : sumTo f n + f n = sumTo g n + g n := e
  rcases Nat.lt_or_ge j n with q | q
  ·exact ih (fun j hj => h j (by omega)) (by omega) j q
  ·obtain rfl : j = n := by omega
   omega
theorem bef_self : ∀ a : List Int, befB a a = false := by
 intro a
 induction a with
 | nil => rfl
 | cons x a ih => simp only [befB, if_true]; exact ih
theorem bef_asym : ∀ {a b : List Int}, befB a b = true → befB b a = false := by
 intro a
 induction a with
 | nil => intro b h; cases b with
  | nil => rfl
  | cons y b => rfl
 | cons x a ih => intro b h; cases b with
  | nil => simp [befB] at h
  | cons y b =>
   simp only [befB] at h ⊢
   by_cases e : x = y
   ·subst e; simp only [if_true] at h ⊢; exact ih h
   ·rw [if_neg e] at h
    rw [if_neg (fun q => e q.symm)]
    simp at h ⊢
    omega
theorem bef_tr : ∀ {a b c : List Int}, befB b a = false → befB c b = false → befB c a = false := by
 intro a
 induction a with
 | nil => intro b c _ _; cases c <;> rfl
 | cons x a ih =>
  intro b c h1 h2
  cases b with
  | nil => simp [befB] at h1
  | cons y b =>
   cases c with
   | nil => simp [befB] at h2
   | cons z c =>
    simp only [befB] at h1 h2 ⊢
    by_cases e1 : y = x
    ·subst e1
     simp only [if_true] at h1
     by_cases e2 : z = y
     ·subst e2
      simp only [if_true] at h2 ⊢
      exact ih h1 h2
     ·rw [if_neg e2] at h2 ⊢
      exact h2
    ·rw [if_neg e1] at h1
     simp at h1
     by_cases e2 : z = y
     ·subst e2
      rw [if_neg e1]
      simp
      omega
     ·rw [if_neg e2] at h2
      simp at h2
      rw [if_neg (by omega)]
      simp
      omega
def keyL (st l : List Pt) : List Int := (manyP l st).1 :: (manyP l st).2 :: flatL l
theorem bet_key (a b st : List Pt) : betB a b st = befB (keyL st a) (keyL st b) := by
 unfold betB keyL
 simp only [befB]
 by_cases e1 : (manyP a st).1 = (manyP b st).1
 ·rw [if_pos e1, e1]
  by_cases e2 : (manyP a st).2 = (manyP b st).2
  ·rw [if_pos e2, e2]
   simp
  ·rw [if_neg e2]
   simp [e2]
 ·rw [if_neg e1]
  simp [e1]
theorem best_go {st : List Pt} : ∀ (l : List (List Pt)) (a : List Pt), ∃ m, l.foldl (bstep st) (some a) = some m ∧ ∀ r ∈ a :: l, befB (keyL st r) (keyL st m) = false := by
 intro l
 induction l with
 | nil => intro a; exact ⟨a, rfl, fun r hr => by simp only [List.mem_singleton] at hr; rw [hr]; exact bef_self _⟩
 | cons x l ih =>
  intro a
  rw [List.foldl_cons]
  simp only [bstep]
  cases q : betB x a st with
  | true =>
   simp only [if_true]
   obtain ⟨m, h1, h2⟩ := ih x
   refine ⟨m, h1, fun r hr => ?_⟩
   rw [bet_key] at q
   rcases List.mem_cons.1 hr with rfl | hr
   ·exact bef_tr (h2 x (by simp)) (bef_asym q)
   ·exact h2 r hr
  | false =>
   simp only [Bool.false_eq_true, if_false]
   obtain ⟨m, h1, h2⟩ := ih a
   refine ⟨m, h1, fun r hr => ?_⟩
   rw [bet_key] at q
   rcases List.mem_cons.1 hr with rfl | hr
   ·exact h2 r (by simp)
   ·rcases List.mem_cons.1 hr with rfl | hr
    ·exact bef_tr (h2 a (by simp)) q
    ·exact h2 r (by simp [hr])
theorem best_least {st : List Pt} {l : List (List Pt)} {m : List Pt} (h : bestP st l = some m) : ∀ r ∈ l, befB (keyL st r) (keyL st m) = false := by
 unfold bestP at h
 cases l with
 | nil => cases h
 | cons a l =>
  obtain ⟨m', h1, h2⟩ := best_go (st := st) l a
  rw [List.foldl_cons] at h
  have e : bstep st none a = some a := rfl
  rw [e, h1] at h
  cases h
  exact h2
theorem pts_ext {a b : List Pt} (hn : a.length = b.length) (h : ∀ j, j < a.length → a.getD j ⟨0, 0⟩ = b.getD j ⟨0, 0⟩) : a = b := by
 refine List.ext_getElem hn fun j h1 h2 => ?_
 have := h j h1
 rw [List.getD, List.getD, List.getElem?_eq_getElem h1, List.getElem?_eq_getElem h2] at this
 exact this
theorem ok_L {st : List Pt} {m : Int} (h : st.all (okPt m) = true) (hm : okPt m ⟨0, 0⟩ = true) : ∀ j, okPt m (st.getD j ⟨0, 0⟩) = true := by
 intro j
 rw [List.getD]
 cases q : st[j]? with
 | none => exact hm
 | some p => exact List.all_eq_true.1 h p (List.mem_of_getElem? q)
theorem ok20_80 {st : List Pt} (h : st.all (okPt 20) = true) : okL st := by
 intro j
 have := okP20.1 (ok_L h (okP20.2 (by simp)) j)
 exact ok80.2 ⟨⟨by omega, by omega⟩, ⟨by omega, by omega⟩⟩
section
variable {off : Int} {hs st l : List Pt} {a b : List Sp} {t n : Nat} {o : List Nat}
theorem moved_law (h0 : 0 ≤ off) (h6 : off ≤ 6) (hh : hs.all (okPt 80) = true) (hst : st.all (okPt 20) = true) (hl : l.all (okPt 20) = true) (hln : l.length = st.length) (hn4 : st.length ≤ 4) (hn : hs.length = st.length) (ht : t < 8) (ho : IsOrd st.length o) (ga : Spd a) (gb : Spd b) (h1 : 1 ≤ n) (h12 : n ≤ 12)
  (h : ∀ j, 1 ≤ j → j ≤ n → stdyB off hs l a b (t : Nat) o j = true) : rsAll off hs st (boxH a b n) ≠ [] ∧ betB l (bestTo (rsAll off hs st (boxH a b n))).st st = false := by
 have hb : smallBx (boxH a b n) := ⟨hull_small ga h1 h12, hull_small gb h1 h12⟩
 have hol : IsOrd l.length o := by rw [hln]; exact ho
 have hfit := steady_box h0 h6 hh hl ht (by omega) hol ga gb h1 h12 h
 have hg : ∀ i, i < st.length → rsG t hs i = lin (backN t) (hs.getD i ⟨0, 0⟩) ∧ okPt 80 (lin (backN t) (hs.getD i ⟨0, 0⟩)) = true := by
  intro i hi
  have := ok_at hh (show i < hs.length by omega)
  exact ⟨turn_lin (back_lt ht) this, lin_ok (back_lt ht) this⟩
 have hlo : ∀ i, i < st.length → okPt 20 (l.getD (o.getD i 0) ⟨0, 0⟩) = true := fun i hi => ok_at hl (by rw [hln]; exact ho.lt _ (getD_in _ (by rw [ho.len]; exact hi)))
 obtain ⟨r, hr⟩ := rsGo_some (off := off) (t := t) (hs := hs) (st := st) (o := o) (b := boxH a b n) st.length (fun i hi => by
  rw [(hg i hi).1]
  exact fit_ok h0 h6 (hg i hi).2 hb (hlo i hi) (hfit i (by omega)))
 have hmem : r ∈ rsAll off hs st (boxH a b n) := by
  unfold rsAll
  exact List.mem_flatMap.2 ⟨t, List.mem_range.2 ht, List.mem_filterMap.2 ⟨o, ord_mem ho, hr⟩⟩
 have hne : rsAll off hs st (boxH a b n) ≠ [] := fun e => by rw [e] at hmem; cases hmem
 refine ⟨hne, ?_⟩
 have hstL := ok20_80 hst
 have hlL := ok20_80 hl
 have hlen := rsGo_len hr
 obtain ⟨_, hrL, _, hrn, hrw⟩ := rs_sum hstL (by omega) ho.nd ho.lt st.length r (by rw [ho.len]; exact Nat.le_refl _) hr
 have hpt := rsGo_pt ho.nd ho.lt st.length r (by rw [ho.len]; exact Nat.le_refl _) hr
 have hcmp : ∀ j, j < st.length → dN (r.st.getD j ⟨0, 0⟩) (st.getD j ⟨0, 0⟩) ≤ dN (l.getD j ⟨0, 0⟩) (st.getD j ⟨0, 0⟩) ∧ dW (r.st.getD j ⟨0, 0⟩) (st.getD j ⟨0, 0⟩) ≤ dW (l.getD j ⟨0, 0⟩) (st.getD j ⟨0, 0⟩) ∧ (dW (r.st.getD j ⟨0, 0⟩) (st.getD j ⟨0, 0⟩) = dW (l.getD j ⟨0, 0⟩) (st.getD j ⟨0, 0⟩) → l.getD j ⟨0, 0⟩ = r.st.getD j ⟨0, 0⟩) := by
  intro j hj
  obtain ⟨i, hi, rfl⟩ := ord_at hn4 ho hj
  rw [(hpt i hi).2, (hg i hi).1]
  exact rs_best h0 h6 (hg i hi).2 hb (hlo i hi) (hfit i (by omega))
 have m1 : manyP l st = (sumTo (fun j => dN (l.getD j ⟨0, 0⟩) (st.getD j ⟨0, 0⟩)) st.length, sumTo (fun j => dW (l.getD j ⟨0, 0⟩) (st.getD j ⟨0, 0⟩)) st.length) := by
  unfold manyP
  rw [hln]
  exact many_sum hlL hstL _ (by omega)
 have m2 : manyP r.st st = (sumTo (fun j => dN (r.st.getD j ⟨0, 0⟩) (st.getD j ⟨0, 0⟩)) st.length, sumTo (fun j => dW (r.st.getD j ⟨0, 0⟩) (st.getD j ⟨0, 0⟩)) st.length) := by
  unfold manyP
  rw [hlen]
  exact many_sum hrL hstL _ (by omega)
 have s1 := sum_le st.length fun j hj => (hcmp j hj).1
 have s2 := sum_le st.length fun j hj => (hcmp j hj).2.1
 have key1 : befB (keyL st l) (keyL st r.st) = false := by
  unfold keyL
  rw [m1, m2]
  simp only [befB]
  by_cases e1 : sumTo (fun j => dN (l.getD j ⟨0, 0⟩) (st.getD j ⟨0, 0⟩)) st.length = sumTo (fun j => dN (r.st.getD j ⟨0, 0⟩) (st.getD j ⟨0, 0⟩)) st.length
  ·rw [if_pos e1]
   by_cases e2 : sumTo (fun j => dW (l.getD j ⟨0, 0⟩) (st.getD j ⟨0, 0⟩)) st.length = sumTo (fun j => dW (r.st.getD j ⟨0, 0⟩) (st.getD j ⟨0, 0⟩)) st.length
   ·rw [if_pos e2]
    have h3 := sum_eq st.length (fun j hj => (hcmp j hj).2.1) e2.symm
    have : l = r.st := pts_ext (by omega) fun j hj => (hcmp j (by omega)).2.2 (h3 j (by omega))
    rw [this]
    exact bef_self _
   ·rw [if_neg e2]
    exact decide_eq_false (by omega)
  ·rw [if_neg e1]
   exact decide_eq_false (by omega)
 have hlaw := reset_law (off := off) (hs := hs) (st := st) (b := boxH a b n) (fun p hp => List.all_eq_true.1 hh p hp) hstL hn4
 rw [if_neg hne, rfAll_is (fun p hp => List.all_eq_true.1 hh p hp) hn4] at hlaw
 have key2 := best_least hlaw r.st (List.mem_map.2 ⟨r, hmem, rfl⟩)
 rw [bet_key]
 exact bef_tr key2 key1
theorem reset_good {r : Rs} (h0 : 0 ≤ off) (h6 : off ≤ 6) (hh : hs.all (okPt 80) = true) (hst : st.all (okPt 20) = true) (hn4 : st.length ≤ 4) (hn : hs.length = st.length) (ga : Spd a) (gb : Spd b) (h1 : 1 ≤ n) (h12 : n ≤ 12) (hr : r ∈ rsAll off hs st (boxH a b n)) :
  r.st.length = st.length ∧ r.st.all (okPt 20) = true ∧ n ≤ gaugeN (sureAt (goodB off hs r.st) a b) := by
 have hb : smallBx (boxH a b n) := ⟨hull_small ga h1 h12, hull_small gb h1 h12⟩
 unfold rsAll at hr
 obtain ⟨t, ht, hr⟩ := List.mem_flatMap.1 hr
 obtain ⟨o, ho', hr⟩ := List.mem_filterMap.1 hr
 have ht := List.mem_range.1 ht
 obtain ⟨g1, g2, g3⟩ := ords_good hn4 o ho'
 have ho : IsOrd st.length o := ⟨g2, g3, g1⟩
 have hlen := rsGo_len hr
 have hpt := rsGo_pt ho.nd ho.lt st.length r (by rw [ho.len]; exact Nat.le_refl _) hr
 have hg : ∀ i, i < st.length → rsG t hs i = lin (backN t) (hs.getD i ⟨0, 0⟩) ∧ okPt 80 (lin (backN t) (hs.getD i ⟨0, 0⟩)) = true := by
  intro i hi
  have := ok_at hh (show i < hs.length by omega)
  exact ⟨turn_lin (back_lt ht) this, lin_ok (back_lt ht) this⟩
 have hfit : ∀ i, i < st.length → fitP off (boxH a b n) (lin (backN t) (hs.getD i ⟨0, 0⟩)) (r.st.getD (o.getD i 0) ⟨0, 0⟩) ∧ okPt 20 (r.st.getD (o.getD i 0) ⟨0, 0⟩) = true := by
  intro i hi
  obtain ⟨q1, q2⟩ := hpt i hi
  rw [(hg i hi).1] at q1 q2
  rw [q2]
  exact rs_fit h0 h6 (hg i hi).2 hb q1
 have hall : r.st.all (okPt 20) = true := by
  rw [List.all_eq_true]
  intro p hp
  obtain ⟨j, hj, rfl⟩ := List.mem_iff_getElem.1 hp
  obtain ⟨i, hi, e⟩ := ord_at hn4 ho (show j < st.length by omega)
  have := (hfit i hi).2
  rw [e, List.getD, List.getElem?_eq_getElem hj] at this
  exact this
 refine ⟨hlen, hall, ?_⟩
 have hsure : ∀ k, 1 ≤ k → k ≤ n → sureAt (goodB off hs r.st) a b k = 3 := by
  intro k k1 k2
  unfold sureAt
  rw [sure_def]
  have hno : upAny (fun p => !goodB off hs r.st p) (a.getD k ⟨0, 0⟩) (b.getD k ⟨0, 0⟩) (ny (a.getD k ⟨0, 0⟩)) = false := by
   rw [Bool.eq_false_iff]
   intro q
   unfold upAny rowAny at q
   rw [List.any_eq_true] at q
   obtain ⟨x, hx, q⟩ := q
   rw [List.any_eq_true] at q
   obtain ⟨y, hy, q⟩ := q
   rw [List.mem_range] at hx hy
   unfold ny at hx hy
   have a1 := ga.small k (by omega)
   have b1 := gb.small k (by omega)
   have a2 := (hull_is ga h1 h12).1 k k1 k2
   have b2 := (hull_is gb h1 h12).1 k k1 k2
   have : goodB off hs r.st ⟨(a.getD k ⟨0, 0⟩).lo + x, (b.getD k ⟨0, 0⟩).lo + y⟩ = true := by
    unfold goodB
    rw [match_iff]
    refine ⟨t, o, ht, ?_, ?_⟩
    ·have : (movedL r.st ((a.getD k ⟨0, 0⟩).lo + x) ((b.getD k ⟨0, 0⟩).lo + y)).length = st.length := by unfold movedL; rw [List.length_map, hlen]
     simp only
     rw [this]
     exact ho
    ·refine (acc_near h0 h6 hh hall (x := (a.getD k ⟨0, 0⟩).lo + x) (y := (b.getD k ⟨0, 0⟩).lo + y) ⟨by omega, by omega⟩ ⟨by omega, by omega⟩ ht (by omega) (by rw [hlen]; exact ho)).2 fun i hi => ?_
     exact fit_near (hfit i (by omega)).1 ⟨by simp only [boxH]; omega, by simp only [boxH]; omega⟩ ⟨by simp only [boxH]; omega, by simp only [boxH]; omega⟩
   simp only [this, Bool.not_true, Bool.false_eq_true] at q
  rw [if_neg (by rw [hno]; simp)]
 obtain ⟨_, _, g⟩ := gauge_is (sureAt (goodB off hs r.st) a b)
 rcases Nat.lt_or_ge (gaugeN (sureAt (goodB off hs r.st) a b)) n with q | q
 ·exact absurd (hsure _ (by omega) (by omega)) (g (by omega))
 ·exact q
end
end Go.AM
set_option maxRecDepth 100000
namespace Go.AM
open Go Go.Proofs
variable [Keep]
attribute [local irreducible] W WO WO1 WD WQ WT thenQ blockQ endR isRet retK Cl ClR
attribute [local irreducible] matchS boundsS machB measB askOk heldI rsAll rfAll bestP bestTo
theorem mach_pts {st : List Pt} {cx cy wx wy : Sp} {rs : List Rdg} (h : machB st cx cy wx wy rs = true) : st.all (okPt 80) = true := by
 unfold machB at h
 simp only [Bool.and_eq_true, decide_eq_true_eq] at h
 have h1 : allB st 2 20 = true := by simp only [h]
 rw [allB_P] at h1
 simp only [pointsB, Bool.and_eq_true] at h1
 rw [List.all_eq_true] at h1 ⊢
 intro p hp
 have h2 := h1.1 p hp
 have e : w64 (-20) = -20 := rfl
 simp only [okPt, inB, e, Bool.and_eq_true, decide_eq_true_eq] at h2
 exact ok80.2 ⟨⟨by omega, by omega⟩, ⟨by omega, by omega⟩⟩
theorem okL_of {st : List Pt} (h : st.all (okPt 80) = true) : okL st := by
 intro j
 rw [List.getD]
 cases q : st[j]? with
 | none => exact ok80.2 (by simp)
 | some p => exact List.all_eq_true.1 h p (List.mem_of_getElem? q)
theorem fold_mem (l : List Rs) : ∀ a : Rs, l.foldl (fun out x => if betR x out then x else out) a ∈ a :: l := by
 induction l with
 | nil => intro a; simp
 | cons x l ih =>
  intro a
  cases q : betR x a with
  | true =>
   simp only [List.foldl_cons, q, if_true]
   have := ih x
   simp only [List.mem_cons] at this ⊢
   rcases this with e | e
   ·exact .inr (.inl e)
   ·exact .inr (.inr e)
  | false =>
   simp only [List.foldl_cons, q, Bool.false_eq_true, if_false]
   have := ih a
   simp only [List.mem_cons] at this ⊢
   rcases this with e | e
   ·exact .inl e
   ·exact .inr (.inr e)
theorem bestTo_mem {l : List Rs} (h : l ≠ []) : bestTo l ∈ l := by
 cases l with
 | nil => exact absurd rfl h
 | cons r l => unfold bestTo; exact fold_mem l r
end Go.AM
namespace Go.AM
open Go Go.Proofs
variable [Keep]
attribute [local irreducible] W WO WO1 WD WQ WT thenQ blockQ endR isRet retK Cl ClR
attribute [local irreducible] boundsS machB accB
def stdyV (off : Int) (hs l : List Pt) (a b : List Sp) (t : Int) (o : List Nat) (n : Nat) : Int := if (List.range n).all fun j => stdyB off hs l a b t o (j + 1) then 1 else 0
def sp60 : List AV → Option AV
 | [.agg [ca, .int .i64 off], .agg [sa, .int .i64 cxl, .int .i64 cxh, .int .i64 cyl, .int .i64 cyh, .int .i64 wxl, .int .i64 wxh, .int .i64 wyl, .int .i64 wyh, ra], la, .int .i64 blank, .int .i64 turn, oa] => match slV ptC ca, slV ptC sa, slV rdgC ra, slV ptC la, slV intC oa, boundsS (ax0 ⟨cxl, cxh⟩ ⟨wxl, wxh⟩ (((slV rdgC ra).getD [])) []), boundsS (ax1 ⟨cyl, cyh⟩ ⟨wyl, wyh⟩ (((slV rdgC ra).getD [])) []) with
  | some hs, some st, some rs, some l, some os, some a, some b => if (machB st ⟨cxl, cxh⟩ ⟨cyl, cyh⟩ ⟨wxl, wxh⟩ ⟨wyl, wyh⟩ rs && inB blank 1 12 && gd131 hs l turn os) = true then
    some (.int .i64 (stdyV off hs l a b turn (natsOf os) blank.toNat)) else none
  | _, _, _, _, _, _, _ => none
 | _ => none
theorem p60 : ∀ args v, sp60 args = some v → v.pur = true := by
 intro args v h
 unfold sp60 at h
 split at h
 ·split at h
  ·split at h
   ·cases h; rfl
   ·cases h
  ·cases h
 ·cases h
noncomputable def cIS : FuncId → Option (List AV → Heap → Option (AV × Heap))
 | 39 => some (pureFn sp39)
 | 79 => some (pureFn sp79)
 | 131 => some (flatFn sp131)
 | _ => none
theorem cIS_sound : Sound (dX cIS) := dX_sound (fun f g h => by
 unfold cIS at h
 split at h
 ·cases h; exact F39
 ·cases h; exact F79
 ·cases h; exact F131
 ·cases h)
theorem movedL_len (l : List Pt) (x y : Int) : (movedL l x y).length = l.length := by unfold movedL; rw [List.length_map]
theorem K131' {X : Ctx} (hX : X.intr 131 = some (flatFn sp131)) (la oa ca : AV) (hs ps : List Pt) (t off : Int) (os : List Int) (hl : slV ptC la = some ps) (hc : slV ptC ca = some hs) (ho : slV intC oa = some os) (hg : gd131 hs ps t os = true) (h : Heap) :
  Cl X 131 [la, .int .i64 t, oa, ca, .int .i64 off] h (.ret (.bool (accB off hs ps t (natsOf os))) h none) :=
 Cl.intr hX (by simp [flatFn, viewVs, view_pur (sl_pur hl), view_pur (sl_pur hc), view_pur (sl_pur ho), view_pur (a := .int .i64 t) rfl, view_pur (a := .int .i64 off) rfl, sp131, hl, hc, ho, hg, natsOf])
theorem gd131_moved {hs l : List Pt} {t : Int} {os : List Int} (h : gd131 hs l t os = true) (x y : Int) : gd131 hs (movedL l x y) t os = true := by
 unfold gd131 at h ⊢
 rw [movedL_len]
 exact h
set_option maxHeartbeats 8000000 in
theorem F60 : IntrFn Tryz.prog 60 (pureFn sp60) := by
 refine pure_fn (X := dX cIS) cIS_sound p60 ?_
 intro args v h
 unfold sp60 at h
 split at h
 ·rename_i ca off sa cxl cxh cyl cyh wxl wxh wyl wyh ra la blank turn oa
  split at h
  ·rename_i hs st rs l os a b hc hl hr hla ho hA hB
   split at h
   ·rename_i hg
    have h := Option.some.inj h
    subst h
    simp only [Bool.and_eq_true] at hg
    obtain ⟨⟨hm, hin⟩, hgd⟩ := hg
    rw [hr] at hA hB
    simp only [Option.getD_some] at hA hB
    obtain ⟨ga, gb⟩ := spd_mach hm hA hB
    have o1 := sl_out hc
    have o2 := sl_out hl
    have o3 := sl_out hr
    have o4 := sl_out hla
    have o5 := sl_out ho
    obtain ⟨n1, t1⟩ := sl_one hc
    obtain ⟨n2, t2⟩ := sl_one hl
    obtain ⟨n3, t3⟩ := sl_one hr
    obtain ⟨n4, t4⟩ := sl_one hla
    obtain ⟨n5, t5⟩ := sl_one ho
    obtain ⟨n, rfl, hn1, hn12⟩ : ∃ n : Nat, blank = n ∧ 1 ≤ n ∧ n ≤ 12 := by
     simp only [inB, Bool.and_eq_true, decide_eq_true_eq] at hin
     exact ⟨blank.toNat, by omega, by omega, by omega⟩
    have k39 := fun (k : Nat) (hk : k ≤ 12) (h : Heap) => show Cl (dX cIS) 39 [.agg [sa, .int .i64 cxl, .int .i64 cxh, .int .i64 cyl, .int .i64 cyh, .int .i64 wxl, .int .i64 wxh, .int .i64 wyl, .int .i64 wyh, ra], .int .i64 k] h (.ret (.tuple [.agg [.int .i64 (a.getD k ⟨0, 0⟩).lo, .int .i64 (a.getD k ⟨0, 0⟩).hi], .agg [.int .i64 (b.getD k ⟨0, 0⟩).lo, .int .i64 (b.getD k ⟨0, 0⟩).hi], .int .i64 0]) h none) from Cl.intr (g := pureFn sp39) rfl (by
     have e : inB (k : Int) 0 12 = true := by simp only [inB, Bool.and_eq_true, decide_eq_true_eq]; omega
     simp [pureFn, AV.pur, AV.purL, sl_pur hl, sl_pur hr, sp39, hl, hr, hm, hA, hB, knownV, e, spC])
    have k79 := fun (x y : Int) (h : Heap) => show Cl (dX cIS) 79 [la, .int .i64 x, .int .i64 y] h (.ret (slN ((movedL l x y).map ptC.enc)) h none) from Cl.intr (g := pureFn sp79) rfl (by
     simp [pureFn, AV.pur, AV.purL, sl_pur hla, sp79, hla])
    have hlm := (slV_is hla).2
    have k131 := fun (x y : Int) (h : Heap) => K131' (X := dX cIS) rfl (slN ((movedL l x y).map ptC.enc)) oa ca hs (movedL l x y) turn off os (slV_slN (by rw [movedL_len]; exact hlm)) hc ho (gd131_moved hgd x y) h
    have hmo := fun (x y : Int) => sl_out (slV_slN (c := ptC) (l := movedL l x y) (by rw [movedL_len]; exact hlm))
    have hmt := fun (x y : Int) => sl_one (slV_slN (c := ptC) (l := movedL l x y) (by rw [movedL_len]; exact hlm))
    simp only [Int.toNat_natCast]
    generalize hres : stdyV off hs l a b turn (natsOf os) n = res
    have HRES := Lib.hid hres
    have HK := Lib.hid (And.intro k39 (And.intro k79 k131))
    have HM := Lib.hid (And.intro hmo hmt)
    have GA := Lib.hid ga
    have GB := Lib.hid gb
    have HN := Lib.hid (And.intro hn1 hn12)
    have b00 : ((0 : Int) != 0) = false := rfl
    clear hc hl hr hla ho hA hB hm hin hgd ga gb k39 k79 k131 hmo hmt hres hn1 hn12 hlm
    refine ClR.walk (c := _) rfl Tryz.func60 rfl (by kernel_rfl) rfl isRet_fail ?_
    simp only [entryEnv, Nat.reduceAdd, emptyHp]
    repeat' (first | refine goS ?_ | refine go2 (fun hh => ?_) (fun hh => ?_) | fail)
    refine W.loopN n (fun k F => ∃ e lm, F = Fr.mk 60 false e lm ⟨0, .nil⟩ [] none ∧ (∀ j, j < k → stdyB off hs l a b turn (natsOf os) (j + 1) = true) ∧
     lm.get 6 = some (0, [ca, .int .i64 off]) ∧ lm.get 7 = some (0, [sa, .int .i64 cxl, .int .i64 cxh, .int .i64 cyl, .int .i64 cyh, .int .i64 wxl, .int .i64 wxh, .int .i64 wyl, .int .i64 wyh, ra]) ∧ e.get 2 = some la ∧ e.get 3 = some (.int .i64 ↑n) ∧ e.get 4 = some (.int .i64 turn) ∧ e.get 5 = some oa ∧ e.get 6 = some (.lptr 6 0 0) ∧ e.get 7 = some (.lptr 7 0 0) ∧ e.get 13 = some (.int .i64 ↑(k + 1)) ∧ k ≤ n) ?_ ?_
    ·refine ⟨_, _, rfl, fun j hj => absurd hj (by omega), ?_, ?_, ?_, ?_, ?_, ?_, ?_, ?_, ?_, ?_⟩ <;> first | exact Z2 | simp [go_sem, *]
    rintro k F ⟨e, lm, rfl, hall, l6, l7, h2, h3, h4, h5, h6, h7, h13, hk⟩
    have HALL := Lib.hid hall
    clear hall
    by_cases hlt : k < n
    ·have hd : decide (((k + 1 : Nat) : Int) ≤ (n : Int)) = true := by simp; omega
     have hw : IntKind.i64.wrap (((k + 1 : Nat) : Int) + 1) = ((k + 1 + 1 : Nat) : Int) := wrap_succ (k := k + 1) (m := 14) (by have := HN.out.2; omega) (by unfold maxL; omega)
     have hsm := GA.out.small (k + 1) (by have := HN.out.2; omega)
     have hne := GA.out.ne (k + 1) (by have := HN.out.2; omega)
     have hsm2 := GB.out.small (k + 1) (by have := HN.out.2; omega)
     have hne2 := GB.out.ne (k + 1) (by have := HN.out.2; omega)
     have k39 := HK.out.1 (k + 1) (by have := HN.out.2; omega)
     have HST := Lib.hid (show stdyB off hs l a b turn (natsOf os) (k + 1) = (accB off hs (movedL l (a.getD (k + 1) ⟨0, 0⟩).lo (b.getD (k + 1) ⟨0, 0⟩).lo) turn (natsOf os) && accB off hs (movedL l (a.getD (k + 1) ⟨0, 0⟩).hi (b.getD (k + 1) ⟨0, 0⟩).hi) turn (natsOf os)) from rfl)
     generalize a.getD (k + 1) ⟨0, 0⟩ = x at *
     generalize b.getD (k + 1) ⟨0, 0⟩ = y at *
     have d1 : decide (x.lo < -80) = false := by simp; omega
     have d2 : decide (x.hi > 80) = false := by simp; omega
     have d3 : decide (y.lo < -80) = false := by simp; omega
     have d4 : decide (y.hi > 80) = false := by simp; omega
     have k79a := HK.out.2.1 x.lo y.lo
     have k79b := HK.out.2.1 x.hi y.hi
     have k131a := HK.out.2.2 x.lo y.lo
     have k131b := HK.out.2.2 x.hi y.hi
     have m1 := HM.out.1 x.lo y.lo
     have m2 := HM.out.1 x.hi y.hi
     have m3 := (HM.out.2 x.lo y.lo).2
     have m4 := (HM.out.2 x.hi y.hi).2
     have m5 := (HM.out.2 x.lo y.lo).1
     have m6 := (HM.out.2 x.hi y.hi).1
     generalize slN ((movedL l x.lo y.lo).map ptC.enc) = u at *
     generalize slN ((movedL l x.hi y.hi).map ptC.enc) = w at *
     generalize accB off hs (movedL l x.lo y.lo) turn (natsOf os) = c1 at *
     generalize accB off hs (movedL l x.hi y.hi) turn (natsOf os) = c2 at *
     have HK39 := Lib.hid k39
     have HK79a := Lib.hid k79a
     have HK79b := Lib.hid k79b
     have HK131a := Lib.hid k131a
     have HK131b := Lib.hid k131b
     have HLT := Lib.hid hlt
     clear hsm hne hsm2 hne2 k39 k79a k79b k131a k131b hk hlt
     have hno : stdyB off hs l a b turn (natsOf os) (k + 1) = false → (0 : Int) = res := by
      intro q
      rw [← HRES.out]
      unfold stdyV
      rw [if_neg]
      intro h
      have := List.all_eq_true.1 h k (List.mem_range.2 HLT.out)
      rw [q] at this
      cases this
     have HNO := Lib.hid hno
     clear hno
     cases c1
     ·have e0 := HNO.out (by rw [HST.out]; rfl)
      subst e0
      repeat' (first | (refine WO1.gund rfl rfl ?_ ?_; exact Z2; simp only [pM, pN]) | (apply W.draw (id := 7) (lc := [0, 1, 2, 3, 4, 5, 6, 7, 8, 9, 10, 11, 12, 13]) (hot := [(5, 8), (5, 10)]); kernel_rfl; kernel_rfl; kernel_rfl; exact Z4) | (apply WD.cons (o := ⟨some 61, _, _, _, _, none⟩); exact rfl; exact rfl) | (apply WD.cons (o := ⟨some 62, _, _, _, _, none⟩); exact rfl; exact rfl) | (apply WD.cons (o := ⟨some 63, _, _, _, _, none⟩); exact rfl; exact rfl) | (apply WD.cons (o := ⟨some 64, _, _, _, _, none⟩); exact rfl; exact rfl) | (apply WD.cons (o := ⟨some 17, _, _, _, _, none⟩); exact rfl; exact rfl) | (apply WD.cons (o := ⟨some 18, _, _, _, _, none⟩); exact rfl; exact rfl) | (refine WD.cons rfl rfl ?_) | (refine WD.nil ⟨?_, ?_⟩; rotate_left; simp only [tN, bN, eN, true_and]) | (refine calmR rfl rfl rfl rfl rfl ?_ ?_; (focus (first | exact Z2 | exact Z1))) | (refine calmE rfl rfl rfl rfl rfl ?_ ?_; (focus (first | exact Z2 | exact Z1))) | (with_reducible refine calmEnd) | refine go1 ?_ | (apply U6; exact Z1; exact Z1; (focus (simp only [List.nil_append, List.append_nil]; first | exact HK39.out _ | exact HK79a.out _ | exact HK79b.out _ | exact HK131a.out _ | exact HK131b.out _)); simp only [pM, pN, rR, rP]) | refine go2 (fun hh => ?_) (fun hh => ?_) | fail)
      all_goals (simp only [resV_def (X := dX cIS) Tryz.func60, Tryz.results60]; first | exact J5 | refine J6 ?_)
     ·cases c2
      ·have e0 := HNO.out (by rw [HST.out]; rfl)
       subst e0
       repeat' (first | (refine WO1.gund rfl rfl ?_ ?_; exact Z2; simp only [pM, pN]) | (apply W.draw (id := 7) (lc := [0, 1, 2, 3, 4, 5, 6, 7, 8, 9, 10, 11, 12, 13]) (hot := [(5, 8), (5, 10)]); kernel_rfl; kernel_rfl; kernel_rfl; exact Z4) | (apply WD.cons (o := ⟨some 61, _, _, _, _, none⟩); exact rfl; exact rfl) | (apply WD.cons (o := ⟨some 62, _, _, _, _, none⟩); exact rfl; exact rfl) | (apply WD.cons (o := ⟨some 63, _, _, _, _, none⟩); exact rfl; exact rfl) | (apply WD.cons (o := ⟨some 64, _, _, _, _, none⟩); exact rfl; exact rfl) | (apply WD.cons (o := ⟨some 17, _, _, _, _, none⟩); exact rfl; exact rfl) | (apply WD.cons (o := ⟨some 18, _, _, _, _, none⟩); exact rfl; exact rfl) | (refine WD.cons rfl rfl ?_) | (refine WD.nil ⟨?_, ?_⟩; rotate_left; simp only [tN, bN, eN, true_and]) | (refine calmR rfl rfl rfl rfl rfl ?_ ?_; (focus (first | exact Z2 | exact Z1))) | (refine calmE rfl rfl rfl rfl rfl ?_ ?_; (focus (first | exact Z2 | exact Z1))) | (with_reducible refine calmEnd) | refine go1 ?_ | (apply U6; exact Z1; exact Z1; (focus (simp only [List.nil_append, List.append_nil]; first | exact HK39.out _ | exact HK79a.out _ | exact HK79b.out _ | exact HK131a.out _ | exact HK131b.out _)); simp only [pM, pN, rR, rP]) | refine go2 (fun hh => ?_) (fun hh => ?_) | fail)
       all_goals (simp only [resV_def (X := dX cIS) Tryz.func60, Tryz.results60]; first | exact J5 | refine J6 ?_)
      ·have hst : stdyB off hs l a b turn (natsOf os) (k + 1) = true := by rw [HST.out]; rfl
       have HST2 := Lib.hid hst
       clear hst
       repeat' (first | (refine WO1.gund rfl rfl ?_ ?_; exact Z2; simp only [pM, pN]) | (apply W.draw (id := 7) (lc := [0, 1, 2, 3, 4, 5, 6, 7, 8, 9, 10, 11, 12, 13]) (hot := [(5, 8), (5, 10)]); kernel_rfl; kernel_rfl; kernel_rfl; exact Z4) | (apply WD.cons (o := ⟨some 61, _, _, _, _, none⟩); exact rfl; exact rfl) | (apply WD.cons (o := ⟨some 62, _, _, _, _, none⟩); exact rfl; exact rfl) | (apply WD.cons (o := ⟨some 63, _, _, _, _, none⟩); exact rfl; exact rfl) | (apply WD.cons (o := ⟨some 64, _, _, _, _, none⟩); exact rfl; exact rfl) | (apply WD.cons (o := ⟨some 17, _, _, _, _, none⟩); exact rfl; exact rfl) | (apply WD.cons (o := ⟨some 18, _, _, _, _, none⟩); exact rfl; exact rfl) | (refine WD.cons rfl rfl ?_) | (refine WD.nil ⟨?_, ?_⟩; rotate_left; simp only [tN, bN, eN, true_and]) | (refine calmR rfl rfl rfl rfl rfl ?_ ?_; (focus (first | exact Z2 | exact Z1))) | (refine calmE rfl rfl rfl rfl rfl ?_ ?_; (focus (first | exact Z2 | exact Z1))) | (with_reducible refine calmEnd) | refine go1 ?_ | (apply U6; exact Z1; exact Z1; (focus (simp only [List.nil_append, List.append_nil]; first | exact HK39.out _ | exact HK79a.out _ | exact HK79b.out _ | exact HK131a.out _ | exact HK131b.out _)); simp only [pM, pN, rR, rP]) | refine go2 (fun hh => ?_) (fun hh => ?_) | fail)
       refine ⟨HLT.out, _, _, rfl, fun j hj => ?_, ?_, ?_, ?_, ?_, ?_, ?_, ?_, ?_, ?_, by have := HLT.out; omega⟩
       ·rcases Nat.lt_or_ge j k with q | q
        ·exact HALL.out j q
        ·obtain rfl : j = k := by omega
         exact HST2.out
       all_goals exact Z2
    ·have hd : decide (((k + 1 : Nat) : Int) ≤ (n : Int)) = false := by simp; omega
     have hkn : k = n := by omega
     have e1 : (1 : Int) = res := by
      rw [← HRES.out]
      unfold stdyV
      rw [if_pos (List.all_eq_true.2 fun j hj => HALL.out j (by have := List.mem_range.1 hj; omega))]
     subst e1
     clear hkn hlt hk
     repeat' (first | refine goS ?_ | refine go2 (fun hh => ?_) (fun hh => ?_) | fail)
     all_goals (simp only [resV_def (X := dX cIS) Tryz.func60, Tryz.results60]; first | exact J5 | refine J6 ?_)
   ·cases h
  ·cases h
 ·cases h
theorem K60 {X : Ctx} (hX : X.intr 60 = some (pureFn sp60)) (ca sa ra la oa : AV) (hs st l : List Pt) (rs : List Rdg) (os : List Int) (cx cy wx wy : Sp) (a b : List Sp) (off blank turn : Int) (hc : slV ptC ca = some hs) (hl : slV ptC sa = some st) (hr : slV rdgC ra = some rs) (hla : slV ptC la = some l) (ho : slV intC oa = some os) (hA : boundsS (ax0 cx wx rs []) = some a) (hB : boundsS (ax1 cy wy rs []) = some b) (hm : machB st cx cy wx wy rs = true) (hn : inB blank 1 12 = true) (hg : gd131 hs l turn os = true) (h : Heap) :
  Cl X 60 [.agg [ca, .int .i64 off], .agg [sa, .int .i64 cx.lo, .int .i64 cx.hi, .int .i64 cy.lo, .int .i64 cy.hi, .int .i64 wx.lo, .int .i64 wx.hi, .int .i64 wy.lo, .int .i64 wy.hi, ra], la, .int .i64 blank, .int .i64 turn, oa] h (.ret (.int .i64 (stdyV off hs l a b turn (natsOf os) blank.toNat)) h none) :=
 Cl.intr hX (by simp [pureFn, AV.pur, AV.purL, sl_pur hc, sl_pur hl, sl_pur hr, sl_pur hla, sl_pur ho, sp60, hc, hl, hr, hla, ho, hA, hB, hm, hn, hg])
end Go.AM
namespace Go.AM
open Go Go.Proofs
variable [Keep]
attribute [local irreducible] W WO WO1 WD WQ WT thenQ blockQ endR isRet retK Cl ClR
attribute [local irreducible] matchS boundsS machB measB askOk heldI rsAll rfAll bestP bestTo stdyV gaugeN sureAt betB pointsB orderB manyP
noncomputable def c12 : FuncId → Option (List AV → Heap → Option (AV × Heap))
 | 27 => some (pureFn sp27)
 | 28 => some (flatFn sp28)
 | 35 => some (pureFn sp35)
 | 38 => some (pureFn sp38)
 | 44 => some (pureFn sp44)
 | 46 => some (pureFn sp46)
 | 57 => some (pureFn sp57)
 | 59 => some (pureFn sp59)
 | 60 => some (pureFn sp60)
 | 61 => some (pureFn sp61)
 | f => c25 cK f
theorem points_ok {l : List Pt} {n : Nat} (h : pointsB l (n : Int) (n : Int) 20 = true) : l.length = n ∧ l.all (okPt 20) = true := by
 unfold pointsB inB at h
 simp only [Bool.and_eq_true, decide_eq_true_eq] at h
 exact ⟨by omega, h.1⟩
theorem ok_points {l : List Pt} {n : Nat} (h1 : l.length = n) (h2 : l.all (okPt 20) = true) : pointsB l (n : Int) (n : Int) 20 = true := by
 unfold pointsB inB
 simp only [Bool.and_eq_true, decide_eq_true_eq]
 exact ⟨h2, by omega, by omega⟩
theorem mach_other {st l : List Pt} {cx cy wx wy : Sp} {rs : List Rdg} (h : machB st cx cy wx wy rs = true) (h1 : l.length = st.length) (h2 : l.all (okPt 20) = true) : machB l cx cy wx wy rs = true := by
 have hs := mach_small h
 unfold machB at h ⊢
 simp only [Bool.and_eq_true, decide_eq_true_eq] at h ⊢
 have : allB l 2 20 = true := by
  rw [allB_P]
  unfold pointsB inB
  simp only [Bool.and_eq_true, decide_eq_true_eq]
  exact ⟨h2, by omega, by omega⟩
 simp only [this, h, and_self, true_and]
theorem ask_other {hs st l : List Pt} {off : Int} {cx cy wx wy : Sp} {rs : List Rdg} {fine : Bool} (h : askOk hs st off (machB st cx cy wx wy rs) fine = true) (h1 : l.length = st.length) (h2 : l.all (okPt 20) = true) : askOk hs l off (machB l cx cy wx wy rs) true = true := by
 unfold askOk at h ⊢
 simp only [Bool.and_eq_true, decide_eq_true_eq] at h ⊢
 exact ⟨⟨⟨h.1.1.1, mach_other h.1.1.2 h1 h2⟩, by omega⟩, trivial⟩
theorem resets_law {hs st l : List Pt} {off : Int} {cx cy wx wy : Sp} {rs : List Rdg} {a b : List Sp} {t n : Nat} {o : List Nat} (h : askOk hs st off (machB st cx cy wx wy rs) true = true) (hA : boundsS (ax0 cx wx rs []) = some a) (hB : boundsS (ax1 cy wy rs []) = some b) (h1 : 1 ≤ n) (h12 : n ≤ 12) (ht : t < 8) (ho : IsOrd st.length o) (hln : l.length = st.length) (hl : l.all (okPt 20) = true) :
  (rsAll off hs st (boxH a b n) = [] ∧ stdyV off hs l a b (t : Nat) o n = 0) ∨
  (rsAll off hs st (boxH a b n) ≠ [] ∧ (bestTo (rsAll off hs st (boxH a b n))).st.length = st.length ∧ (bestTo (rsAll off hs st (boxH a b n))).st.all (okPt 20) = true ∧ n ≤ gaugeN (sureAt (goodB off hs (bestTo (rsAll off hs st (boxH a b n))).st) a b) ∧ (manyP (bestTo (rsAll off hs st (boxH a b n))).st st).1 = (bestTo (rsAll off hs st (boxH a b n))).n ∧
   (stdyV off hs l a b (t : Nat) o n = 0 ∨ stdyV off hs l a b (t : Nat) o n = 1 ∧ betB l (bestTo (rsAll off hs st (boxH a b n))).st st = false)) := by
 unfold askOk at h
 simp only [Bool.and_eq_true, decide_eq_true_eq] at h
 obtain ⟨⟨⟨hme, hma⟩, hn⟩, _⟩ := h
 obtain ⟨hh, h0, h6⟩ := meas_ok hme
 have hst := mach_stops hma
 have hn4 := (mach_small hma).2.1
 obtain ⟨ga, gb⟩ := spd_mach hma hA hB
 have hv : stdyV off hs l a b (t : Nat) o n = 0 ∨ (stdyV off hs l a b (t : Nat) o n = 1 ∧ ∀ j, 1 ≤ j → j ≤ n → stdyB off hs l a b (t : Nat) o j = true) := by
  unfold stdyV
  split
  ·rename_i q
   refine .inr ⟨rfl, fun j j1 j2 => ?_⟩
   have := List.all_eq_true.1 q (j - 1) (List.mem_range.2 (by omega))
   rw [show j - 1 + 1 = j by omega] at this
   exact this
  ·exact .inl rfl
 by_cases q : rsAll off hs st (boxH a b n) = []
 ·refine .inl ⟨q, ?_⟩
  rcases hv with hv | ⟨_, hv⟩
  ·exact hv
  ·exact absurd q (moved_law h0 h6 hh hst hl hln hn4 hn.symm ht ho ga gb h1 h12 hv).1
 ·have hm := bestTo_mem q
  obtain ⟨r1, r2, r3⟩ := reset_good h0 h6 hh hst hn4 hn.symm ga gb h1 h12 hm
  refine .inr ⟨q, r1, r2, r3, by rw [rsAll_many (okL_of (mach_pts hma)) hn4 _ hm], ?_⟩
  rcases hv with hv | ⟨hv1, hv⟩
  ·exact .inl hv
  ·exact .inr ⟨hv1, (moved_law h0 h6 hh hst hl hln hn4 hn.symm ht ho ga gb h1 h12 hv).2⟩
set_option maxHeartbeats 16000000 in
theorem T12 (ca sa ra la oa : AV) (off blank turn : Int) (cx cy wx wy : Sp) (hs st l : List Pt) (rs : List Rdg) (os : List Int) (hc : isSl ca (hs.map ptC.enc)) (hl : isSl sa (st.map ptC.enc)) (hr : isSl ra (rs.map rdgC.enc)) (hla : isSl la (l.map ptC.enc)) (ho : isSl oa (os.map intC.enc)) :
  ClR (dX c12) 12 [.agg [ca, .int .i64 off], .agg [sa, .int .i64 cx.lo, .int .i64 cx.hi, .int .i64 cy.lo, .int .i64 cy.hi, .int .i64 wx.lo, .int .i64 wx.hi, .int .i64 wy.lo, .int .i64 wy.hi, ra], .int .i64 blank, la, .int .i64 turn, oa] emptyHp (isRet (.bool true)) := by
 have o1 := hc.out
 have o2 := hl.out
 have o3 := hr.out
 have o4 := hla.out
 have o5 := ho.out
 have t1 := hc.tup
 have t2 := hl.tup
 have t3 := hr.tup
 have t4 := hla.tup
 have t5 := ho.tup
 simp only [isTuple] at t1 t2 t3 t4 t5
 have on : ∀ {a : AV} {es : List AV}, isSl a es → a.one = true := fun h => by rcases h with ⟨rfl | rfl, _⟩ | rfl <;> rfl
 have n1 := on hc
 have n2 := on hl
 have n3 := on hr
 have n4 := on hla
 have n5 := on ho
 have hp1 := hl.pur (enc_pur ptC st)
 have hp2 := hr.pur (enc_pur rdgC rs)
 have ln1 : lenS ca = some hs.length := by rw [hc.len, List.length_map]
 have ln2 : lenS sa = some st.length := by rw [hl.len, List.length_map]
 have ln4 : lenS la = some l.length := by rw [hla.len, List.length_map]
 have ln5 : lenS oa = some os.length := by rw [ho.len, List.length_map]
 have k25 : ∀ h, Cl (dX c12) 25 [] h (.ret (.bool true) h none) := fun h => K25 rfl h
 have k27 : ∀ h, Cl (dX c12) 27 [.int .i64 turn] h (.ret (.bool (inB turn 0 7)) h none) := fun h => Cl.intr (g := pureFn sp27) rfl rfl
 have k38 : ∀ h, Cl (dX c12) 38 [.agg [sa, .int .i64 cx.lo, .int .i64 cx.hi, .int .i64 cy.lo, .int .i64 cy.hi, .int .i64 wx.lo, .int .i64 wx.hi, .int .i64 wy.lo, .int .i64 wy.hi, ra]] h (.ret (.bool (decide ((st.length : Int) ≤ 6) && decide ((rs.length : Int) ≤ 6))) h none) := fun h => by
  have h1 := slLen_mk hl
  have h2 := slLen_mk hr
  exact Cl.intr (g := pureFn sp38) rfl (by simp [pureFn, AV.pur, AV.purL, hp1, hp2, sp38, h1, h2])
 by_cases gs : (decide ((st.length : Int) ≤ 6) && decide ((rs.length : Int) ≤ 6)) = true ∧ decide ((hs.length : Int) > 6) = false ∧ decide ((l.length : Int) > 6) = false ∧ decide ((os.length : Int) > 6) = false
 ·obtain ⟨ga, gb, gc, gd⟩ := gs
  rw [ga] at k38
  have gb' := gb
  have gc' := gc
  have gd' := gd
  simp only [Bool.and_eq_true, decide_eq_true_eq] at ga
  simp only [decide_eq_false_iff_not] at gb' gc' gd'
  have v1 : slV ptC ca = some hs := slV_mk hc (by unfold maxL; omega)
  have v2 : slV ptC sa = some st := slV_mk hl (by unfold maxL; omega)
  have v3 : slV rdgC ra = some rs := slV_mk hr (by unfold maxL; omega)
  have v4 : slV ptC la = some l := slV_mk hla (by unfold maxL; omega)
  have v5 : slV intC oa = some os := slV_mk ho (by unfold maxL; omega)
  have k44 : ∀ h, Cl (dX c12) 44 [.agg [ca, .int .i64 off], .agg [sa, .int .i64 cx.lo, .int .i64 cx.hi, .int .i64 cy.lo, .int .i64 cy.hi, .int .i64 wx.lo, .int .i64 wx.hi, .int .i64 wy.lo, .int .i64 wy.hi, ra], .int .i64 blank, .int .i64 1] h (.ret (.int .i64 (heldI hs st off (machB st cx cy wx wy rs) ((boundsS (ax0 cx wx rs [])).isSome && (boundsS (ax1 cy wy rs [])).isSome) (inB blank 1 12))) h none) := fun h => Cl.intr (g := pureFn sp44) rfl (by simp [pureFn, AV.pur, AV.purL, sl_pur v1, hp1, hp2, sp44, v1, v2, v3])
  rw [held_ask] at k44
  have k28 : ∀ h, Cl (dX c12) 28 [la, .int .i64 ↑st.length, .int .i64 ↑st.length, .int .i64 20] h (.ret (.bool (pointsB l st.length st.length 20)) h none) := fun h => K28 (X := dX c12) rfl la l _ _ 20 v4 h
  have k35 : ∀ h, Cl (dX c12) 35 [oa, .int .i64 ↑st.length] h (.ret (.bool (orderB os st.length)) h none) := fun h => Cl.intr (g := pureFn sp35) rfl (by simp [pureFn, AV.pur, AV.purL, sl_pur v5, sp35, v5])
  have b00 : ((0 : Int) != 0) = false := rfl
  have b20 : ((2 : Int) != 0) = true := rfl
  have b70 : ((7 : Int) != 0) = true := rfl
  have b50 : ((5 : Int) != 0) = true := rfl
  have b55 : ((5 : Int) != 5) = false := rfl
  have e00 : ((0 : Int) == 0) = true := rfl
  have e10 : ((1 : Int) == 0) = false := rfl
  have tt : (true && true) = true := rfl
  by_cases hall : (askOk hs st off (machB st cx cy wx wy rs) (inB blank 1 12) = true ∧ (boundsS (ax0 cx wx rs [])).isSome = true ∧ (boundsS (ax1 cy wy rs [])).isSome = true) ∧ pointsB l st.length st.length 20 = true ∧ inB turn 0 7 = true ∧ orderB os st.length = true
  ·obtain ⟨⟨m1, m2, m3⟩, m4, m5, m6⟩ := hall
   obtain ⟨a, hA⟩ := Option.isSome_iff_exists.1 m2
   obtain ⟨b, hB⟩ := Option.isSome_iff_exists.1 m3
   have hask := m1
   unfold askOk at hask
   simp only [Bool.and_eq_true, decide_eq_true_eq] at hask
   obtain ⟨⟨⟨hme, hma⟩, hnn⟩, hin⟩ := hask
   have hn4 := (mach_small hma).2.1
   have hn2 := (mach_small hma).1
   obtain ⟨o, rfl, hord⟩ := order_nat hn4 m6
   obtain ⟨n, rfl, hn1, hn12⟩ : ∃ n : Nat, blank = n ∧ 1 ≤ n ∧ n ≤ 12 := by
    simp only [inB, Bool.and_eq_true, decide_eq_true_eq] at hin
    exact ⟨blank.toNat, by omega, by omega, by omega⟩
   obtain ⟨t, rfl, ht8⟩ : ∃ t : Nat, turn = t ∧ t < 8 := by
    simp only [inB, Bool.and_eq_true, decide_eq_true_eq] at m5
    exact ⟨turn.toNat, by omega, by omega⟩
   obtain ⟨hl1, hl2⟩ := points_ok m4
   have hask1 : askOk hs st off (machB st cx cy wx wy rs) true = true := by
    rw [hin] at m1
    exact m1
   have hlaw := resets_law hask1 hA hB hn1 hn12 ht8 hord hl1 hl2
   have hgd : gd131 hs l ((t : Nat) : Int) (o.map fun k : Nat => (k : Int)) = true := by
    unfold gd131
    simp only [Bool.and_eq_true, decide_eq_true_eq, List.length_map]
    refine ⟨⟨⟨m5, by omega⟩, by rw [hord.len]; omega⟩, ?_⟩
    rw [List.all_map, List.all_eq_true]
    intro x hx
    have := hord.lt x hx
    simp only [Function.comp, Bool.and_eq_true, decide_eq_true_eq]
    omega
   have k60 := fun h => K60 (X := dX c12) rfl ca sa ra la oa hs st l rs (o.map fun k : Nat => (k : Int)) cx cy wx wy a b off (n : Nat) (t : Nat) v1 v2 v3 v4 v5 hA hB hma hin hgd h
   have hnat : natsOf (o.map fun k : Nat => (k : Int)) = o := toNat_map o
   rw [hnat] at k60
   simp only [Int.toNat_natCast] at k60
   have k57 : ∀ h, Cl (dX c12) 57 [.agg [ca, .int .i64 off], .agg [sa, .int .i64 cx.lo, .int .i64 cx.hi, .int .i64 cy.lo, .int .i64 cy.hi, .int .i64 wx.lo, .int .i64 wx.hi, .int .i64 wy.lo, .int .i64 wy.hi, ra], .int .i64 n] h (.ret (resetV true (some a) (some b) off hs st n) h none) := fun h => Cl.intr (g := pureFn sp57) rfl (by simp [pureFn, AV.pur, AV.purL, sl_pur v1, hp1, hp2, sp57, v1, v2, v3, hA, hB, m1])
   rw [m1, hA, hB] at k44
   simp only [Option.isSome_some, Bool.and_self, if_true] at k44
   rw [m4] at k28
   rw [m5] at k27
   rw [m6] at k35
   simp only [resetV, if_true] at k57
   rcases hlaw with ⟨h1, h2⟩ | ⟨h1, h2, h3, h4, h5, h6⟩
   ·rw [if_pos h1] at k57
    rw [h2] at k60
    have HK57 := Lib.hid k57
    have HK60 := Lib.hid k60
    clear hc hl hr hla ho hp1 hp2 v1 v2 v3 v4 v5 ga gb' gc' gd' m1 m2 m3 m4 m5 m6 hA hB hme hma hnn hin hn4 hn2 hord hl1 hl2 hask1 hgd k60 k57 hnat h1 h2
    refine ClR.walk (c := _) rfl Tryz.func12 rfl (by kernel_rfl) rfl isRet_fail ?_
    simp only [entryEnv, Nat.reduceAdd, emptyHp]
    repeat' (first | refine goS ?_ | (apply U6; exact Z1; exact Z1; (focus (simp only [List.nil_append, List.append_nil]; first | exact k38 _ | exact k44 _ | exact k28 _ | exact k27 _ | exact k35 _ | exact HK57.out _ | exact HK60.out _ | exact k25 _)); simp only [pM, pN, rR, rP]) | refine go2 (fun hh => ?_) (fun hh => ?_) | fail)
    all_goals (simp only [resV_def (X := dX c12) Tryz.func12, Tryz.results12]; first | exact J5 | refine J6 ?_)
   ·rw [if_neg h1] at k57
    generalize bestTo (rsAll off hs st (boxH a b n)) = br at *
    have vb : slV ptC (slN (br.st.map ptC.enc)) = some br.st := slV_slN (by rw [h2]; unfold maxL; omega)
    have obr := sl_out vb
    have lbr := sl_len vb
    rw [h2] at lbr
    obtain ⟨nbr, tbr⟩ := sl_one vb
    have cbr : (slN (br.st.map ptC.enc)).cells = [slN (br.st.map ptC.enc)] := (slV_is vb).1.cells
    simp only [AV.cells] at cbr
    simp only [isTuple] at tbr
    have k28b : ∀ h, Cl (dX c12) 28 [slN (br.st.map ptC.enc), .int .i64 ↑st.length, .int .i64 ↑st.length, .int .i64 20] h (.ret (.bool true) h none) := fun h => by
     have := K28 (X := dX c12) rfl _ br.st st.length st.length 20 vb h
     rw [ok_points h2 h3] at this
     exact this
    have hask2 := ask_other hask1 h2 h3
    have k46 : ∀ h, Cl (dX c12) 46 [.agg [ca, .int .i64 off], .agg [slN (br.st.map ptC.enc), .int .i64 cx.lo, .int .i64 cx.hi, .int .i64 cy.lo, .int .i64 cy.hi, .int .i64 wx.lo, .int .i64 wx.hi, .int .i64 wy.lo, .int .i64 wy.hi, ra]] h (.ret (.tuple [.int .i64 (gaugeN (sureAt (goodB off hs br.st) a b) : Nat), .int .i64 0]) h none) := fun h => Cl.intr (g := pureFn sp46) rfl (by
     simp only [pureFn, AV.pur, AV.purL, sl_pur v1, sl_pur vb, hp2, Bool.and_self, if_true, sp46, v1, vb, v3, hask2, hA, hB, gaugeF])
    have k59 := fun h => K59 (X := dX c12) rfl _ sa br.st st vb v2 (by omega) h
    rw [h5] at k59
    have k61 := fun h => K61 (X := dX c12) rfl la _ sa l br.st st v4 vb v2 ⟨by omega, by omega, by omega⟩ h
    have dg : decide (((gaugeN (sureAt (goodB off hs br.st) a b) : Nat) : Int) < (n : Int)) = false := by simp; omega
    generalize gaugeN (sureAt (goodB off hs br.st) a b) = gn at *
    generalize (manyP br.st st).2 = y at *
    generalize br.n = nn at *
    have x1 : (nn != nn) = false := by simp
    have HK57 := Lib.hid k57
    have HK46 := Lib.hid k46
    have HK59 := Lib.hid k59
    rcases h6 with h6 | ⟨h6, h7⟩
    ·rw [h6] at k60
     have HK60 := Lib.hid k60
     have HK61 := Lib.hid k61
     generalize slN (br.st.map ptC.enc) = bv at *
     clear hc hl hr hla ho hp1 hp2 v1 v2 v3 v4 v5 ga gb' gc' gd' m1 m2 m3 m4 m5 m6 hA hB hme hma hnn hin hn4 hn2 hord hl1 hl2 hask1 hgd k60 k57 hnat h1 h2 h3 h4 h5 h6 vb hask2 k46 k59 k61
     refine ClR.walk (c := _) rfl Tryz.func12 rfl (by kernel_rfl) rfl isRet_fail ?_
     simp only [entryEnv, Nat.reduceAdd, emptyHp]
     repeat' (first | refine goS ?_ | (apply U6; exact Z1; exact Z1; (focus (simp only [List.nil_append, List.append_nil]; first | exact k38 _ | exact k44 _ | exact k28 _ | exact k28b _ | exact k27 _ | exact k35 _ | exact HK57.out _ | exact HK60.out _ | exact HK46.out _ | exact HK59.out _ | exact k25 _)); simp only [pM, pN, rR, rP]) | refine go2 (fun hh => ?_) (fun hh => ?_) | fail)
     all_goals (simp only [resV_def (X := dX c12) Tryz.func12, Tryz.results12]; first | exact J5 | refine J6 ?_)
    ·rw [h6] at k60
     rw [h7] at k61
     have HK60 := Lib.hid k60
     have HK61 := Lib.hid k61
     generalize slN (br.st.map ptC.enc) = bv at *
     clear hc hl hr hla ho hp1 hp2 v1 v2 v3 v4 v5 ga gb' gc' gd' m1 m2 m3 m4 m5 m6 hA hB hme hma hnn hin hn4 hn2 hord hl1 hl2 hask1 hgd k60 k57 hnat h1 h2 h3 h4 h5 h6 h7 vb hask2 k46 k59 k61
     refine ClR.walk (c := _) rfl Tryz.func12 rfl (by kernel_rfl) rfl isRet_fail ?_
     simp only [entryEnv, Nat.reduceAdd, emptyHp]
     repeat' (first | refine goS ?_ | (apply U6; exact Z1; exact Z1; (focus (simp only [List.nil_append, List.append_nil]; first | exact k38 _ | exact k44 _ | exact k28 _ | exact k28b _ | exact k27 _ | exact k35 _ | exact HK57.out _ | exact HK60.out _ | exact HK46.out _ | exact HK59.out _ | exact HK61.out _ | exact k25 _)); simp only [pM, pN, rR, rP]) | refine go2 (fun hh => ?_) (fun hh => ?_) | fail)
     all_goals (simp only [resV_def (X := dX c12) Tryz.func12, Tryz.results12]; first | exact J5 | refine J6 ?_)
  ·have hhe : (if askOk hs st off (machB st cx cy wx wy rs) (inB blank 1 12) = true then (if ((boundsS (ax0 cx wx rs [])).isSome && (boundsS (ax1 cy wy rs [])).isSome) = true then (0 : Int) else 7) else 2) = 0 ↔ (askOk hs st off (machB st cx cy wx wy rs) (inB blank 1 12) = true ∧ (boundsS (ax0 cx wx rs [])).isSome = true ∧ (boundsS (ax1 cy wy rs [])).isSome = true) := by
    cases askOk hs st off (machB st cx cy wx wy rs) (inB blank 1 12) <;> cases (boundsS (ax0 cx wx rs [])).isSome <;> cases (boundsS (ax1 cy wy rs [])).isSome <;> simp
   rw [← hhe] at hall
   generalize (if askOk hs st off (machB st cx cy wx wy rs) (inB blank 1 12) = true then (if ((boundsS (ax0 cx wx rs [])).isSome && (boundsS (ax1 cy wy rs [])).isSome) = true then (0 : Int) else 7) else 2) = he at *
   have hcase : (he != 0) = true ∨ ((he != 0) = false ∧ pointsB l st.length st.length 20 = false) ∨ ((he != 0) = false ∧ pointsB l st.length st.length 20 = true ∧ inB turn 0 7 = false) ∨ ((he != 0) = false ∧ pointsB l st.length st.length 20 = true ∧ inB turn 0 7 = true ∧ orderB os st.length = false) := by
    by_cases q : he = 0
    ·subst q
     cases q1 : pointsB l st.length st.length 20 <;> cases q2 : inB turn 0 7 <;> cases q3 : orderB os st.length <;> simp_all
    ·exact .inl (by simp [q])
   clear hc hl hr hla ho hp1 hp2 v1 v2 v3 v4 v5 ga gb' gc' gd' hall hhe
   generalize pointsB l st.length st.length 20 = p1 at *
   generalize inB turn 0 7 = p2 at *
   generalize orderB os st.length = p3 at *
   refine ClR.walk (c := _) rfl Tryz.func12 rfl (by kernel_rfl) rfl isRet_fail ?_
   simp only [entryEnv, Nat.reduceAdd, emptyHp]
   rcases hcase with q | ⟨q, rfl⟩ | ⟨q, rfl, rfl⟩ | ⟨q, rfl, rfl, rfl⟩
   all_goals (
    repeat' (first | refine goS ?_ | (apply U6; exact Z1; exact Z1; (focus (simp only [List.nil_append, List.append_nil]; first | exact k38 _ | exact k44 _ | exact k28 _ | exact k27 _ | exact k35 _ | exact k25 _)); simp only [pM, pN, rR, rP]) | refine go2 (fun hh => ?_) (fun hh => ?_) | fail)
    all_goals (simp only [resV_def (X := dX c12) Tryz.func12, Tryz.results12]; first | exact J5 | refine J6 ?_))
 ·have hcase : (decide ((st.length : Int) ≤ 6) && decide ((rs.length : Int) ≤ 6)) = false ∨ ((decide ((st.length : Int) ≤ 6) && decide ((rs.length : Int) ≤ 6)) = true ∧ decide ((hs.length : Int) > 6) = true) ∨ ((decide ((st.length : Int) ≤ 6) && decide ((rs.length : Int) ≤ 6)) = true ∧ decide ((hs.length : Int) > 6) = false ∧ decide ((l.length : Int) > 6) = true) ∨ ((decide ((st.length : Int) ≤ 6) && decide ((rs.length : Int) ≤ 6)) = true ∧ decide ((hs.length : Int) > 6) = false ∧ decide ((l.length : Int) > 6) = false ∧ decide ((os.length : Int) > 6) = true) := by
   cases q1 : (decide ((st.length : Int) ≤ 6) && decide ((rs.length : Int) ≤ 6)) <;> cases q2 : decide ((hs.length : Int) > 6) <;> cases q3 : decide ((l.length : Int) > 6) <;> cases q4 : decide ((os.length : Int) > 6) <;> first | exact .inl rfl | exact .inr (.inl ⟨rfl, rfl⟩) | exact .inr (.inr (.inl ⟨rfl, rfl, rfl⟩)) | exact .inr (.inr (.inr ⟨rfl, rfl, rfl, rfl⟩)) | exact absurd ⟨q1, q2, q3, q4⟩ gs
  clear hc hl hr hla ho hp1 hp2 gs
  generalize (decide ((st.length : Int) ≤ 6) && decide ((rs.length : Int) ≤ 6)) = sl at *
  refine ClR.walk (c := _) rfl Tryz.func12 rfl (by kernel_rfl) rfl isRet_fail ?_
  simp only [entryEnv, Nat.reduceAdd, emptyHp]
  rcases hcase with rfl | ⟨rfl, y1⟩ | ⟨rfl, y1, y2⟩ | ⟨rfl, y1, y2, y3⟩
  all_goals (
   repeat' (first | refine goS ?_ | (apply U6; exact Z1; exact Z1; (focus (simp only [List.nil_append, List.append_nil]; first | exact k38 _ | exact k25 _)); simp only [pM, pN, rR, rP]) | refine go2 (fun hh => ?_) (fun hh => ?_) | fail)
   all_goals (simp only [resV_def (X := dX c12) Tryz.func12, Tryz.results12]; first | exact J5 | refine J6 ?_))
end Go.AM
