/-
  A part of the proof: contracts of functions.
-/
import Derived.Test.YtlhcjccaimmhgaaGreatDoorWAM
import Derived.Test.YtlhcjccaimmhgaaGreatDoorWAG
import Derived.Test.YtlhcjccaimmhgaaGreatDoorWAF
import Derived.Test.YtlhcjccaimmhgaaGreatDoorWAK
import Derived.Test.YtlhcjccaimmhgaaGreatDoorWAJ
set_option linter.unusedSimpArgs false
set_option linter.unusedVariables false
set_option linter.unusedSectionVars false
namespace Go.AM
open Go
variable [Keep]
theorem inB_small {x a b : Int} (h : inB x a b = true) (ha : -99 ≤ a) (hb : b ≤ 99) : smallN x = true := by
 unfold inB at h
 unfold smallN
 simp only [Bool.and_eq_true, decide_eq_true_eq] at h ⊢
 omega
theorem mc_small {m : Mc} (h : machB m.st m.cx m.cy m.wx m.wy m.rs = true) : smallM m = true ∧ m.st.length ≤ 4 ∧ m.rs.length ≤ 4 := by
 rw [← machR_B] at h
 unfold machR at h
 simp only [Bool.and_eq_true, decide_eq_true_eq] at h
 obtain ⟨hr, ⟨⟨hs, hc1, hc2⟩, hw1, hw2⟩, hlen⟩ := h
 have hsp : ∀ {l h a b w : Int}, spanB l h a b w = true → -99 ≤ a → b ≤ 99 → smallN l = true ∧ smallN h = true := by
  intro l h a b w k ha hb
  unfold spanB at k
  unfold smallN
  simp only [Bool.and_eq_true, decide_eq_true_eq] at k ⊢
  omega
 unfold pointsB at hs
 simp only [Bool.and_eq_true, List.all_eq_true] at hs
 have w20 : w64 (-20) = -20 := by decide
 refine ⟨?_, ?_, by omega⟩
 ·unfold smallM
  simp only [Bool.and_eq_true, List.all_eq_true]
  have a1 := hsp hc1 (by decide) (by decide)
  have a2 := hsp hc2 (by decide) (by decide)
  have b1 := hsp hw1 (by decide) (by decide)
  have b2 := hsp hw2 (by decide) (by decide)
  refine ⟨⟨⟨fun p hp => ?_, ⟨⟨a1.1, a1.2⟩, a2.1⟩, a2.2⟩, ⟨⟨b1.1, b1.2⟩, b2.1⟩, b2.2⟩, fun r hrm => ?_⟩
  ·have := hs.1 p hp
   unfold okPt at this
   rw [w20] at this
   simp only [Bool.and_eq_true] at this
   exact ⟨inB_small this.1 (by decide) (by decide), inB_small this.2 (by decide) (by decide)⟩
  ·have := List.all_eq_true.1 hr r hrm
   unfold okRdgR at this
   simp only [Bool.and_eq_true] at this
   exact ⟨⟨⟨inB_small this.1.1.1 (by decide) (by decide), inB_small this.1.1.2 (by decide) (by decide)⟩, inB_small this.1.2 (by decide) (by decide)⟩, inB_small this.2 (by decide) (by decide)⟩
 ·have := hs.2
  unfold inB at this
  simp only [Bool.and_eq_true, decide_eq_true_eq] at this
  omega
theorem sumL_le {B : Nat} : ∀ {L : List (List UInt8)}, (∀ l ∈ L, l.length ≤ B) → (L.map fun l => l.length + 1).sum ≤ (B + 1) * L.length := by
 intro L
 induction L with
 | nil => intro _; simp
 | cons a L ih =>
  intro h
  have h1 := ih (fun l hl => h l (List.mem_cons_of_mem _ hl))
  have h2 := h a (List.mem_cons_self ..)
  simp only [List.map_cons, List.sum_cons, List.length_cons, Nat.mul_add, Nat.mul_one]
  omega
theorem text_len_eq (m : Mc) : (textM m).length = ((allL m).map fun l => l.length + 1).sum := by
 unfold textM
 rw [List.length_flatMap]
 congr 1
 exact List.map_congr_left (fun l _ => by simp)
theorem lines_len {m : Mc} (hm : smallM m = true) (hl : lensM m) : ∀ l ∈ linesM m, l.length ≤ 23 := by
 intro l h
 unfold linesM at h
 simp only [List.mem_cons, List.mem_append, List.mem_map] at h
 rcases h with rfl | ⟨p, hp, rfl⟩ | rfl | rfl | ⟨r, hr, rfl⟩
 ·exact Nat.le_trans (line_len3 (ns := [(m.st.length : Int), (m.rs.length : Int)]) (by simp [len_small hl.1, len_small hl.2])) (by simp [wMach, wStop, wChuck, wWear, wRead])
 ·exact Nat.le_trans (line_len3 (sm_st hm hp)) (by simp [wMach, wStop, wChuck, wWear, wRead])
 ·exact Nat.le_trans (line_len3 (sm_c hm)) (by simp [wMach, wStop, wChuck, wWear, wRead])
 ·exact Nat.le_trans (line_len3 (sm_w hm)) (by simp [wMach, wStop, wChuck, wWear, wRead])
 ·exact Nat.le_trans (line_len3 (sm_rs hm hr)) (by simp [wMach, wStop, wChuck, wWear, wRead])
theorem text_short {m : Mc} (hm : smallM m = true) (h1 : m.st.length ≤ 4) (h2 : m.rs.length ≤ 4) : (textM m).length ≤ 300 := by
 have hl : lensM m := ⟨by omega, by omega⟩
 rw [text_len_eq]
 unfold allL
 simp only [List.map_append, List.sum_append, List.map_cons, List.map_nil, List.sum_cons, List.sum_nil]
 have e1 := sumL_le (lines_len hm hl)
 have e2 := (end_ok (c := ck 0 (linesM m) % 127) (Nat.mod_lt _ (by decide))).2
 have e3 : (linesM m).length = m.st.length + m.rs.length + 3 := by
  simp only [linesM, List.length_append, List.length_cons, List.length_map]
  omega
 rw [e3] at e1
 omega
theorem spL_set {b c : UInt8} (hc : c ≠ b) : ∀ {s : List UInt8} {i : Nat} {d : UInt8}, s[i]? = some d → d ≠ b → ∃ (j : Nat) (p : List UInt8) (k : Nat), (spL b s)[j]? = some p ∧ p[k]? = some d ∧ spL b (s.set i c) = (spL b s).set j (p.set k c) := by
 intro s
 induction s with
 | nil => intro i d h; simp at h
 | cons a r ih =>
  intro i d h hd
  cases i with
  | zero =>
   simp only [List.getElem?_cons_zero, Option.some.injEq] at h
   subst h
   simp only [List.set_cons_zero, spL, if_neg hd, if_neg hc]
   cases q : spL b r with
   | nil => exact absurd q (spL_ne b r)
   | cons p l => exact ⟨0, a :: p, 0, rfl, rfl, rfl⟩
  | succ i =>
   simp only [List.getElem?_cons_succ] at h
   obtain ⟨j, p, k, h1, h2, h3⟩ := ih h hd
   simp only [List.set_cons_succ, spL, h3]
   by_cases e : a = b
   ·simp only [if_pos e]
    exact ⟨j + 1, p, k, by simpa using h1, h2, by simp⟩
   ·simp only [if_neg e]
    cases q : spL b r with
    | nil => exact absurd q (spL_ne b r)
    | cons p0 l =>
     rw [q] at h1
     cases j with
     | zero =>
      simp only [List.getElem?_cons_zero, Option.some.injEq] at h1
      subst h1
      exact ⟨0, a :: p0, k + 1, rfl, by simpa using h2, by simp⟩
     | succ j =>
      simp only [List.getElem?_cons_succ] at h1
      exact ⟨j + 1, p, k, by simpa using h1, h2, by simp⟩
theorem ck1_set (i : Nat) (c : UInt8) : ∀ {l : List UInt8} {n k : Nat} {d : UInt8}, l[k]? = some d → (ck1 i n (l.set k c) : Int) = ck1 i n l + ((c.toNat : Int) - d.toNat) * ((n + k + 1 : Nat) : Int) * ((i + 1 : Nat) : Int) := by
 intro l
 induction l with
 | nil => intro n k d h; simp at h
 | cons a r ih =>
  intro n k d h
  cases k with
  | zero =>
   simp only [List.getElem?_cons_zero, Option.some.injEq] at h
   subst h
   simp only [List.set_cons_zero, ck1]
   push_cast
   simp only [Int.add_zero, Int.sub_mul]
   omega
  | succ k =>
   simp only [List.getElem?_cons_succ] at h
   have := ih (n := n + 1) h
   simp only [List.set_cons_succ, ck1]
   push_cast at this ⊢
   rw [this]
   rw [show (n : Int) + 1 + (k : Int) + 1 = (n : Int) + ((k : Int) + 1) + 1 by omega]
   omega
theorem ck_set {c d : UInt8} {p : List UInt8} {k : Nat} (hp : p[k]? = some d) : ∀ {L : List (List UInt8)} {i j : Nat}, L[j]? = some p → (ck i (L.set j (p.set k c)) : Int) = ck i L + ((c.toNat : Int) - d.toNat) * ((k + 1 : Nat) : Int) * ((i + j + 1 : Nat) : Int) := by
 intro L
 induction L with
 | nil => intro i j h; simp at h
 | cons a r ih =>
  intro i j h
  cases j with
  | zero =>
   simp only [List.getElem?_cons_zero, Option.some.injEq] at h
   subst h
   have := ck1_set i c (n := 0) hp
   simp only [List.set_cons_zero, ck]
   push_cast at this ⊢
   rw [this]
   simp only [Int.zero_add, Int.add_zero]
   omega
  | succ j =>
   simp only [List.getElem?_cons_succ] at h
   have := ih (i := i + 1) h
   simp only [List.set_cons_succ, ck]
   push_cast at this ⊢
   rw [this]
   rw [show (i : Int) + 1 + (j : Int) + 1 = (i : Int) + ((j : Int) + 1) + 1 by omega]
   omega
theorem p127_all : ((List.range 9).all fun a => (List.range 23).all fun b => (List.range 13).all fun c => !Nat.beq ((a + 1) * (b + 1) * (c + 1) % 127) 0) = true := by kernel_rfl
theorem p127 {a b c : Nat} (ha : 1 ≤ a) (ha' : a ≤ 9) (hb : b < 23) (hc : c < 13) : a * (b + 1) * (c + 1) % 127 ≠ 0 := by
 have h1 := List.all_eq_true.1 p127_all (a - 1) (List.mem_range.2 (by omega))
 have h2 := List.all_eq_true.1 h1 b (List.mem_range.2 hb)
 have h3 := List.all_eq_true.1 h2 c (List.mem_range.2 hc)
 rw [show a - 1 + 1 = a by omega] at h3
 intro e
 rw [e] at h3
 cases h3
theorem set_ne {α : Type} {l : List α} {k : Nat} {a b : α} (h : l[k]? = some a) (hn : b ≠ a) : l.set k b ≠ l := by
 intro e
 have hlt : k < l.length := (List.getElem?_eq_some_iff.1 h).1
 have := congrArg (fun l => l[k]?) e
 simp only [List.getElem?_set_self hlt, h, Option.some.injEq] at this
 exact hn this
theorem dig_bds {c : UInt8} (h : isDig c = true) : 48 ≤ c.toNat ∧ c.toNat ≤ 57 := by
 unfold isDig at h
 simpa using h
theorem dig_ne10 {c : UInt8} (h : isDig c = true) : c ≠ 10 := by
 intro e
 subst e
 cases h
theorem spoilt {m : Mc} (hm : smallM m = true) (h1 : m.st.length ≤ 4) (h2 : m.rs.length ≤ 4) {i : Nat} {c d : UInt8} (hi : (textM m)[i]? = some d) (hd : isDig d = true) (hc : isDig c = true) (hne : c ≠ d) : readM ((textM m).set i c) = none := by
 cases q : readM ((textM m).set i c) with
 | none => rfl
 | some m' =>
  exfalso
  obtain ⟨t1, t2, t3⟩ := readM_is q
  obtain ⟨j, p, k, g1, g2, g3⟩ := spL_set (dig_ne10 hc) hi (dig_ne10 hd)
  rw [← t1, text_split t2, text_split hm] at g3
  rw [text_split hm] at g1
  have hk : k < p.length := (List.getElem?_eq_some_iff.1 g2).1
  have hL : (linesM m).length = m.st.length + m.rs.length + 3 := by
   simp only [linesM, List.length_append, List.length_cons, List.length_map]
   omega
  have hA : (allL m).length = (linesM m).length + 1 := by simp [allL]
  have hj : j < (allL m).length := by
   rcases Nat.lt_trichotomy j (allL m).length with k1 | k1 | k1
   ·exact k1
   ·subst k1
    rw [List.getElem?_append_right (Nat.le_refl _), Nat.sub_self] at g1
    simp only [List.getElem?_cons_zero, Option.some.injEq] at g1
    subst g1
    simp at hk
   ·rw [List.getElem?_eq_none (by simp only [List.length_append, List.length_cons, List.length_nil]; omega)] at g1
    cases g1
  rw [List.set_append_left _ _ hj] at g3
  have g4 := List.append_cancel_right g3
  rw [List.getElem?_append_left hj] at g1
  unfold allL at g4 g1
  rcases Nat.lt_or_ge j (linesM m).length with hjl | hjl
  ·rw [List.set_append_left _ _ hjl] at g4
   rw [List.getElem?_append_left hjl] at g1
   obtain ⟨e1, e2⟩ := List.append_inj' g4 rfl
   simp only [List.cons.injEq, and_true] at e2
   have e3 := end_inj (Nat.mod_lt _ (by decide)) (Nat.mod_lt _ (by decide)) e2
   have e4 := ck_set (c := c) g2 (i := 0) g1
   rw [← e1] at e4
   have hlen := lines_len hm ⟨by omega, by omega⟩ p (List.mem_of_getElem? g1)
   obtain ⟨b1, b2⟩ := dig_bds hc
   obtain ⟨b3, b4⟩ := dig_bds hd
   have hcd : c.toNat ≠ d.toNat := fun e => hne (UInt8.toNat_inj.1 e)
   rcases Nat.lt_or_ge d.toNat c.toNat with hlt | hge
   ·have e5 : ck 0 (linesM m') = ck 0 (linesM m) + (c.toNat - d.toNat) * (k + 1) * (j + 1) := by
     have : (((c.toNat - d.toNat : Nat) : Int)) = (c.toNat : Int) - d.toNat := by omega
     rw [← this] at e4
     rw [show 0 + j + 1 = j + 1 by omega] at e4
     exact_mod_cast e4
    have := p127 (a := c.toNat - d.toNat) (b := k) (c := j) (by omega) (by omega) (by omega) (by omega)
    generalize (c.toNat - d.toNat) * (k + 1) * (j + 1) = P at *
    omega
   ·have e5 : ck 0 (linesM m) = ck 0 (linesM m') + (d.toNat - c.toNat) * (k + 1) * (j + 1) := by
     have : (((d.toNat - c.toNat : Nat) : Int)) = -((c.toNat : Int) - d.toNat) := by omega
     have e6 : (ck 0 (linesM m) : Int) = ck 0 (linesM m') + -((c.toNat : Int) - d.toNat) * ((k + 1 : Nat) : Int) * ((0 + j + 1 : Nat) : Int) := by
      rw [e4, Int.neg_mul, Int.neg_mul]
      omega
     rw [← this] at e6
     rw [show 0 + j + 1 = j + 1 by omega] at e6
     exact_mod_cast e6
    have := p127 (a := d.toNat - c.toNat) (b := k) (c := j) (by omega) (by omega) (by omega) (by omega)
    generalize (d.toNat - c.toNat) * (k + 1) * (j + 1) = P at *
    omega
  ·have hje : j = (linesM m).length := by omega
   subst hje
   rw [List.getElem?_append_right (Nat.le_refl _), Nat.sub_self] at g1
   simp only [List.getElem?_cons_zero, Option.some.injEq] at g1
   rw [List.set_append_right _ _ (Nat.le_refl _), Nat.sub_self] at g4
   obtain ⟨e1, e2⟩ := List.append_inj' g4 rfl
   simp only [List.set_cons_zero, List.cons.injEq, and_true] at e2
   rw [e1, g1] at e2
   exact set_ne g2 hne e2.symm
end Go.AM
namespace Go.AM
open Go
variable [Keep]
section
variable {X : Ctx} {ops : Array Oper} {K P : AV → Fr → Prop} {F : Fr} {d : Option Tmp} {T : TypeId} {p : String} {af : Array Edge}
theorem WO1.rangeS {t : TypeId} {x : Operand} {l : List UInt8} (hx : F.opv x = some (.str l)) (h1 : X.P.underlying t = some .string) (he : isEffAt X F.f ⟨d, .range t x, T, p, af, none⟩ = true)
  (h : K (.ptr F.hp.next 0) (({ F with hp := F.hp.new (.iter l 0) } : Fr).put d (.ptr F.hp.next 0))) : WO1 X ops ⟨d, .range t x, T, p, af, none⟩ F K P := by
 refine U5 (v := .ptr F.hp.next 0) (F' := { F with hp := F.hp.new (.iter l 0) }) he (fun cl rd => ?_) h
 simp only [efV, Fr.rangeE, h1, hx]
theorem WO1.nextS {it : Operand} {l : List UInt8} {id pos r z : Nat} (hx : F.opv it = some (.ptr id 0)) (hg : F.hp.get id = some (.iter l pos)) (hp : pos < l.length) (hr : Utf8.decode ⟨l.toArray⟩ pos = (r, z)) (he : isEffAt X F.f ⟨d, .next it true, T, p, af, none⟩ = true)
  (h : K (.tuple [.bool true, .int .i64 pos, .int .i32 r]) (({ F with hp := F.hp.put id (.iter l (pos + z)) } : Fr).put d (.tuple [.bool true, .int .i64 pos, .int .i32 r]))) : WO1 X ops ⟨d, .next it true, T, p, af, none⟩ F K P := by
 refine U5 (v := .tuple [.bool true, .int .i64 pos, .int .i32 r]) (F' := { F with hp := F.hp.put id (.iter l (pos + z)) }) he (fun cl rd => ?_) h
 simp only [efV, Fr.nextE, hx, hg, if_pos hp, hr]
theorem WO1.nextN {it : Operand} {l : List UInt8} {id pos : Nat} (hx : F.opv it = some (.ptr id 0)) (hg : F.hp.get id = some (.iter l pos)) (hp : ¬ pos < l.length) (he : isEffAt X F.f ⟨d, .next it true, T, p, af, none⟩ = true)
  (h : K (.tuple [.bool false]) (F.put d (.tuple [.bool false]))) : WO1 X ops ⟨d, .next it true, T, p, af, none⟩ F K P := by
 refine U5 (v := .tuple [.bool false]) (F' := F) he (fun cl rd => ?_) h
 simp only [efV, Fr.nextE, hx, hg, if_neg hp]
theorem WO1.appendM {args : Array Operand} {at_ : Array TypeId} {t u e e' : TypeId} {tl : List TypeId} {sz b : Nat} {x y : AV} {new l : List AV} {h0 : Heap} (hb : BltN b F.hp x sz l) (hx : b ≤ F.hp.next ∧ ∀ id, id < b → F.hp.get id = h0.get id) (hargs : F.opvs args.toList = some [x, y]) (ht : at_.toList = t :: u :: tl) (hu : X.P.underlying u = some (.slice e'))
  (hel : elemT X.P t = some e) (hs : szT X.P e = sz) (hrow : rowable X.P e = true) (hy : F.hp.elems y = some new) (hsz : ∀ v ∈ new, v.cells.length = sz) (hlen : l.length + new.length ≤ most) (hne : new ≠ [])
  (h : ∀ v' h', BltN b h' v' sz (l ++ new) → outV (some v') = some v' → Keeps F.hp h' x → (b ≤ h'.next ∧ ∀ id, id < b → h'.get id = h0.get id) → K v' (({ F with hp := h' } : Fr).put d v')) : WO1 X ops ⟨d, .call ⟨.builtin .append, args, at_⟩, T, p, af, none⟩ F K P := by
 subst hs
 obtain ⟨v', h', q1, q2, q3, q4⟩ := append_blt hel hrow hsz hb.blt hlen hne
 have hB : BltN b h' v' (szT X.P e) (l ++ new) := by
  rcases q2 with ⟨q, e⟩ | ⟨id, g1, g2, g3, g4⟩
  ·exact absurd e (by simp [hne])
  ·refine .inr ⟨id, g1, g2, ?_, g3, g4⟩
   rw [q4] at g1
   cases g1
   exact hx.1
 have hX : b ≤ h'.next ∧ ∀ id, id < b → h'.get id = h0.get id := by
  refine ⟨Nat.le_trans hx.1 q3.1, fun id hid => ?_⟩
  rw [q3.2 id (Nat.lt_of_lt_of_le hid hx.1) (fun off n ev => ?_)]
  ·exact hx.2 id hid
  ·rcases hb with ⟨rfl, _⟩ | ⟨j, rfl, _, hj, _⟩
   ·cases ev
   ·cases ev; omega
 refine U5 (v := v') (F' := { F with hp := h' }) rfl (fun cl rd => ?_) (h v' h' hB q2.out q3 hX)
 simp only [efV, Fr.callOp, Fr.builtinE, Fr.appendE, ht, hargs, hu]
 cases y <;> first | (simp only [hy, q1, okO]; done) | simp [Heap.elems] at hy
theorem WO1.rowB {t e : TypeId} {n : Nat} {ps : Array (Nat × Operand)} {l : List AV} {sz : Nat} (h1 : elemT X.P t = some e) (hz : szT X.P e = sz) (h2 : rdV X F d (.buildSlice t n ps) = some (.vslice l)) (he : isEffAt X F.f ⟨d, .buildSlice t n ps, T, p, af, none⟩ = true)
  (h : K (.row F.hp.next 0 l.length) (({ F with hp := F.hp.new (.rw sz l) } : Fr).put d (.row F.hp.next 0 l.length))) : WO1 X ops ⟨d, .buildSlice t n ps, T, p, af, none⟩ F K P := by
 subst hz
 refine U5 (v := .row F.hp.next 0 l.length) (F' := { F with hp := F.hp.new (.rw (szT X.P e) l) }) he (fun cl rd => ?_) h
 have h3 : F.buildSliceV X.P t n ps.toList = some (.vslice l) := h2
 simp only [efV, Fr.rowE, h1, h3]
end
theorem get_byte {l : List UInt8} {k : Nat} {c : UInt8} (h : l[k]? = some c) : (⟨l.toArray⟩ : ByteArray).get! k = c := by
 show (l.toArray)[k]! = c
 simp [h]
theorem dec_asc {l : List UInt8} {k : Nat} {c : UInt8} (h : l[k]? = some c) (hc : c.toNat < 128) : Utf8.decode ⟨l.toArray⟩ k = (c.toNat, 1) := by
 unfold Utf8.decode
 simp only [Nat.add_zero, get_byte h]
 rw [if_pos hc]
theorem dec_big {l : List UInt8} {k : Nat} {c : UInt8} (h : l[k]? = some c) (hc : ¬ c.toNat < 128) : 128 ≤ (Utf8.decode ⟨l.toArray⟩ k).1 := by
 unfold Utf8.decode
 simp only [Nat.add_zero, get_byte h]
 rw [if_neg hc]
 have : 128 ≤ Utf8.runeError := by decide
 split
 ·split
  ·rename_i q; exact q
  ·exact this
 ·split
  ·split
   ·rename_i q
    simp only [Bool.and_eq_true, decide_eq_true_eq] at q
    omega
   ·exact this
  ·split
   ·split
    ·rename_i q
     simp only [Bool.and_eq_true, decide_eq_true_eq] at q
     omega
    ·exact this
   ·exact this
end Go.AM
set_option maxRecDepth 100000
namespace Go.AM
open Go Go.Proofs
variable [Keep]
attribute [local irreducible] W WO WO1 WD WQ WT thenQ blockQ endR isRet retK Cl ClR
def sureC (b : Bool) (w : List UInt8) (h : Heap) : COut := if b then .ret (.tuple []) h none else .pan (.iface 205 (.agg [.str w])) h none
theorem C185 (c : Itr) (hc : c 185 = none) (b : Bool) (w : List UInt8) (h : Heap) : Cl (dX c) 185 [.bool b, .str w] h (sureC b w h) := by
 refine ClR.cl ?_
 cases b with
 | true =>
  refine ClR.walk (c := _) hc Tryz.func185 rfl (by kernel_rfl) rfl (fun e => by cases e) ?_
  simp only [entryEnv, Nat.reduceAdd]
  repeat' (first | (apply WO1.panic; exact rfl; (focus (intro cl rd; simp only [go_sem, *, Nat.reduceLT, Int.reduceEq, Int.reduceBEq, Int.reduceLE, Int.reduceLT, Nat.reduceAdd, Nat.reduceBEq, Nat.reduceEqDiff, reduceIte, Nat.reduceLeDiff, Nat.reduceMul, Nat.reduceSub, reduceCtorEq, efV, Fr.panicE]; with_reducible rfl)); simp only [tP, bP, eP, true_and]) | refine go1 ?_ | refine go2 (fun hh => ?_) (fun hh => ?_) | fail)
  all_goals (simp only [resV_def (X := dX c) Tryz.func185, Tryz.results185]; first | exact J5 | refine J6 ?_)
  all_goals rfl
 | false =>
  refine ClR.walk (c := _) hc Tryz.func185 rfl (by kernel_rfl) rfl (fun e => by cases e) ?_
  simp only [entryEnv, Nat.reduceAdd]
  repeat' (first | (apply WO1.panic; exact rfl; (focus (intro cl rd; simp only [go_sem, *, Nat.reduceLT, Int.reduceEq, Int.reduceBEq, Int.reduceLE, Int.reduceLT, Nat.reduceAdd, Nat.reduceBEq, Nat.reduceEqDiff, reduceIte, Nat.reduceLeDiff, Nat.reduceMul, Nat.reduceSub, reduceCtorEq, efV, Fr.panicE]; with_reducible rfl)); simp only [tP, bP, eP, true_and]) | refine go1 ?_ | refine go2 (fun hh => ?_) (fun hh => ?_) | fail)
  all_goals rfl
def sp232 : List AV → Option AV
 | [.str w, .str [c]] => some (.bool (w.head? == some c))
 | _ => none
set_option maxHeartbeats 1000000 in
theorem F232 : IntrFn Tryz.prog 232 (pureFn sp232) := by
 refine pure_fn (X := dX i0) i0_sound (fun a v h => by unfold sp232 at h; split at h <;> cases h; rfl) ?_
 intro args v h
 unfold sp232 at h
 split at h
 ·rename_i w c
  have h := Option.some.inj h
  subst h
  cases w with
  | nil =>
   have hd0 : decide (((0 : Nat) : Int) ≥ ((1 : Nat) : Int)) = false := rfl
   refine ClR.walk (c := _) rfl Tryz.func232 rfl (by kernel_rfl) rfl isRet_fail ?_
   simp only [entryEnv, Nat.reduceAdd]
   repeat' (first | refine goS ?_ | refine go2 (fun hh => ?_) (fun hh => ?_) | fail)
   all_goals (simp only [resV_def (X := dX i0) Tryz.func232, Tryz.results232]; first | exact J5 | refine J6 ?_)
   all_goals rfl
  | cons a r =>
   have hd : decide (((a :: r).length : Int) ≥ 1) = true := by simp; omega
   have hd2 : decide ((((r.length + 1 : Nat)) : Int) ≥ ((1 : Nat) : Int)) = true := by simp; omega
   have hct : ∀ H, sliceV Tryz.prog H 9 (.str (a :: r)) none (some (some (.int .i64 1))) none = some (.str [a]) := fun H => by
    have b1 : boundV (some (some (.int .i64 1))) (a :: r).length (a :: r).length = some 1 := by
     simp only [boundV]
     rw [if_pos (by simp; omega)]
     rfl
    have b2 : boundV none 0 1 = some 0 := rfl
    simp only [sliceV, Tryz.underlying9, strCut, boundsV, b1, b2]
    rfl
   have hct2 : ∀ H, sliceV Tryz.prog H 9 (.str (a :: r)) none (some (some (.int .i64 ((1 : Nat) : Int)))) none = some (.str [a]) := hct
   refine ClR.walk (c := _) rfl Tryz.func232 rfl (by kernel_rfl) rfl isRet_fail ?_
   simp only [entryEnv, Nat.reduceAdd]
   repeat' (first | (apply U4 (v := .str [a]); (focus (simp only [go_sem, *, Nat.reduceLT, Int.reduceEq, Int.reduceBEq, Int.reduceLE, Int.reduceLT, Nat.reduceAdd, Nat.reduceBEq, Nat.reduceEqDiff, reduceIte, Nat.reduceLeDiff, Nat.reduceMul, Nat.reduceSub, reduceCtorEq, Option.map_none, Option.map_some]; done)); exact rfl; simp only [pM, pN, rR, rP]) | refine go1 ?_ | refine go2 (fun hh => ?_) (fun hh => ?_) | fail)
   all_goals (simp only [resV_def (X := dX i0) Tryz.func232, Tryz.results232]; first | exact J5 | refine J6 ?_)
   all_goals simp
 ·cases h
theorem K232 {X : Ctx} (hX : X.intr 232 = some (pureFn sp232)) (w : List UInt8) (c : UInt8) (h : Heap) : Cl X 232 [.str w, .str [c]] h (.ret (.bool (w.head? == some c)) h none) := Cl.intr hX rfl
noncomputable def c232 : Itr
 | 232 => some (pureFn sp232)
 | _ => none
theorem c232_sound : Sound (dX c232) := dX_sound (fun f g h => by
 unfold c232 at h
 split at h
 ·cases h; exact F232
 ·cases h)
def trimW (w : List UInt8) (c : UInt8) : List UInt8 := match w with | a :: r => if a = c then r else a :: r | [] => []
def sp221 : List AV → Option AV
 | [.str w, .str [c]] => some (.str (trimW w c))
 | _ => none
set_option maxHeartbeats 1000000 in
theorem F221 : IntrFn Tryz.prog 221 (pureFn sp221) := by
 refine pure_fn (X := dX c232) c232_sound (fun a v h => by unfold sp221 at h; split at h <;> cases h; rfl) ?_
 intro args v h
 unfold sp221 at h
 split at h
 ·rename_i w c
  have h := Option.some.inj h
  subst h
  have k232 := fun h => K232 (X := dX c232) rfl w c h
  cases w with
  | nil =>
   have e : (([] : List UInt8).head? == some c) = false := rfl
   rw [e] at k232
   refine ClR.walk (c := _) rfl Tryz.func221 rfl (by kernel_rfl) rfl isRet_fail ?_
   simp only [entryEnv, Nat.reduceAdd]
   repeat' (first | refine goS ?_ | (apply U6; exact Z1; exact Z1; (focus (simp only [List.nil_append, List.append_nil]; first | exact k232 _)); simp only [pM, pN, rR, rP]) | refine go2 (fun hh => ?_) (fun hh => ?_) | fail)
   all_goals (simp only [resV_def (X := dX c232) Tryz.func221, Tryz.results221]; first | exact J5 | refine J6 ?_)
   all_goals rfl
  | cons a r =>
   by_cases hac : a = c
   ·subst hac
    have e : ((a :: r).head? == some a) = true := by simp
    rw [e] at k232
    have ht : trimW (a :: r) a = r := by simp [trimW]
    rw [ht]
    have hct : ∀ H, sliceV Tryz.prog H 9 (.str (a :: r)) (some (some (.int .i64 ((1 : Nat) : Int)))) none none = some (.str r) := fun H => by
     have b1 : boundV none (a :: r).length (a :: r).length = some (a :: r).length := rfl
     have b2 : boundV (some (some (.int .i64 ((1 : Nat) : Int)))) 0 (a :: r).length = some 1 := by
      simp only [boundV]
      rw [if_pos (by simp; omega)]
      rfl
     simp only [sliceV, Tryz.underlying9, strCut, boundsV, b1, b2]
     simp
    have hct2 : ∀ H, sliceV Tryz.prog H 9 (.str (a :: r)) (some (some (.int .i64 1))) none none = some (.str r) := hct
    refine ClR.walk (c := _) rfl Tryz.func221 rfl (by kernel_rfl) rfl isRet_fail ?_
    simp only [entryEnv, Nat.reduceAdd]
    repeat' (first | (apply U4 (v := .str r); (focus (simp only [go_sem, *, Nat.reduceLT, Int.reduceEq, Int.reduceBEq, Int.reduceLE, Int.reduceLT, Nat.reduceAdd, Nat.reduceBEq, Nat.reduceEqDiff, reduceIte, Nat.reduceLeDiff, Nat.reduceMul, Nat.reduceSub, reduceCtorEq, Option.map_none, Option.map_some]; done)); exact rfl; simp only [pM, pN, rR, rP]) | refine go1 ?_ | (apply U6; exact Z1; exact Z1; (focus (simp only [List.nil_append, List.append_nil]; first | exact k232 _)); simp only [pM, pN, rR, rP]) | refine go2 (fun hh => ?_) (fun hh => ?_) | fail)
    all_goals (simp only [resV_def (X := dX c232) Tryz.func221, Tryz.results221]; first | exact J5 | refine J6 ?_)
    all_goals rfl
   ·have e : ((a :: r).head? == some c) = false := by simpa using hac
    rw [e] at k232
    have ht : trimW (a :: r) c = a :: r := by simp [trimW, hac]
    rw [ht]
    clear hac
    refine ClR.walk (c := _) rfl Tryz.func221 rfl (by kernel_rfl) rfl isRet_fail ?_
    simp only [entryEnv, Nat.reduceAdd]
    repeat' (first | refine goS ?_ | (apply U6; exact Z1; exact Z1; (focus (simp only [List.nil_append, List.append_nil]; first | exact k232 _)); simp only [pM, pN, rR, rP]) | refine go2 (fun hh => ?_) (fun hh => ?_) | fail)
    all_goals (simp only [resV_def (X := dX c232) Tryz.func221, Tryz.results221]; first | exact J5 | refine J6 ?_)
    all_goals rfl
 ·cases h
theorem K221 {X : Ctx} (hX : X.intr 221 = some (pureFn sp221)) (w : List UInt8) (c : UInt8) (h : Heap) : Cl X 221 [.str w, .str [c]] h (.ret (.str (trimW w c)) h none) := Cl.intr hX rfl
noncomputable def c221 : Itr
 | 221 => some (pureFn sp221)
 | _ => none
theorem c221_sound : Sound (dX c221) := dX_sound (fun f g h => by
 unfold c221 at h
 split at h
 ·cases h; exact F221
 ·cases h)
theorem F210 : IntrFn Tryz.prog 210 (pureFn sp221) := by
 refine pure_fn (X := dX c221) c221_sound (fun a v h => by unfold sp221 at h; split at h <;> cases h; rfl) ?_
 intro args v h
 unfold sp221 at h
 split at h
 ·rename_i w c
  have h := Option.some.inj h
  subst h
  have k221 := fun h => K221 (X := dX c221) rfl w c h
  refine ClR.walk (c := _) rfl Tryz.func210 rfl (by kernel_rfl) rfl isRet_fail ?_
  simp only [entryEnv, Nat.reduceAdd]
  repeat' (first | refine goS ?_ | (apply U6; exact Z1; exact Z1; (focus (simp only [List.nil_append, List.append_nil]; first | exact k221 _)); simp only [pM, pN, rR, rP]) | refine go2 (fun hh => ?_) (fun hh => ?_) | fail)
  all_goals (simp only [resV_def (X := dX c221) Tryz.func210, Tryz.results210]; first | exact J5 | refine J6 ?_)
  all_goals rfl
 ·cases h
theorem K210 {X : Ctx} (hX : X.intr 210 = some (pureFn sp221)) (w : List UInt8) (h : Heap) : Cl X 210 [.str w, .str [45]] h (.ret (.str (digsOf w)) h none) := by
 have e : trimW w 45 = digsOf w := by cases w <;> rfl
 rw [← e]
 exact Cl.intr hX rfl
theorem dec_is {l : List UInt8} {k : Nat} {c : UInt8} (h : l[k]? = some c) : ∃ r z : Nat, Utf8.decode ⟨l.toArray⟩ k = (r, z) ∧ (isDig c = true → r = c.toNat ∧ z = 1) ∧ (decide ((r : Int) ≥ 48) && decide ((r : Int) ≤ 57)) = isDig c := by
 by_cases hc : c.toNat < 128
 ·refine ⟨c.toNat, 1, dec_asc h hc, fun _ => ⟨rfl, rfl⟩, ?_⟩
  unfold isDig
  rw [Bool.eq_iff_iff]
  simp only [Bool.and_eq_true, decide_eq_true_eq]
  omega
 ·have hb := dec_big h hc
  cases hq : Utf8.decode ⟨l.toArray⟩ k with
  | mk r z =>
   rw [hq] at hb
   simp only at hb
   refine ⟨r, z, rfl, fun hd => ?_, ?_⟩
   ·unfold isDig at hd
    simp only [Bool.and_eq_true, decide_eq_true_eq] at hd
    omega
   ·unfold isDig
    rw [Bool.eq_iff_iff]
    simp only [Bool.and_eq_true, decide_eq_true_eq]
    omega
theorem val_next {d : List UInt8} {k : Nat} {c : UInt8} (h : d[k]? = some c) : valD (d.take (k + 1)) = 10 * valD (d.take k) + (c.toNat - 48) := by
 unfold valD
 rw [take_next h, List.foldl_append]
 rfl
def numR (w : List UInt8) (h : Heap) (r : COut) : Prop := ∃ h', HExt h h' ∧ r = match numW w with | some n => .ret (.int .i64 n) h' none | none => .pan (.iface 205 (.agg [.str w])) h' none
theorem numR_fail {w : List UInt8} {h : Heap} : ¬ numR w h .fail := by
 rintro ⟨h', _, e⟩
 split at e <;> cases e
theorem numR_pan {w : List UInt8} {h h' : Heap} (x : HExt h h') (e : numW w = none) : numR w h (.pan (.iface 205 (.agg [.str w])) h' none) := ⟨h', x, by rw [e]⟩
theorem numR_ret {w : List UInt8} {h h' : Heap} {n : Int} (x : HExt h h') (e : numW w = some n) : numR w h (.ret (.int .i64 n) h' none) := ⟨h', x, by rw [e]⟩
theorem num_noform {w : List UInt8} (h : formD (digsOf w) = false) : numW w = none := by
 unfold numW
 rw [h]
 rfl
theorem digs_len (w : List UInt8) : (digsOf w).length ≤ w.length := by
 cases w with
 | nil => exact Nat.le_refl _
 | cons a r =>
  unfold digsOf
  simp only
  split
  ·simp
  ·exact Nat.le_refl _
attribute [local irreducible] numR
set_option maxHeartbeats 2000000 in
theorem C202 (c : Itr) (hc : c 202 = none) (hc1 : c 185 = none) (hc2 : c 210 = some (pureFn sp221)) (hc3 : c 181 = some (atOnce spItoa)) (w : List UInt8) (h : Heap) (hw0 : w.length ≤ 100000) :
  ClR (dX c) 202 [.str w] h (numR w h) := by
 obtain ⟨hn, hm⟩ := h
 have k210 := fun h => K210 (X := dX c) hc2 w h
 have hdl := digs_len w
 generalize hd0 : digsOf w = d at *
 have HD0 := Lib.hid hd0
 clear hd0
 have u9 := Tryz.underlying9
 refine ClR.walk (c := _) hc Tryz.func202 rfl (by kernel_rfl) rfl numR_fail ?_
 simp only [entryEnv, Nat.reduceAdd]
 repeat' (first | (apply WO1.rangeS; exact Z1; exact Z2; exact rfl; simp only [pM, pN]) | refine go1 ?_ | (apply U6; exact Z1; exact Z1; (focus (simp only [List.nil_append, List.append_nil]; first | exact k210 _)); simp only [pM, pN, rR, rP]) | refine go2 (fun hh => ?_) (fun hh => ?_) | fail)
 refine W.loopN d.length (fun k F => ∃ e qn qm, F = Fr.mk 202 false e .nil ⟨qn, qm⟩ [] none ∧ qm.get hn = some (.iter d k) ∧ (hn < qn ∧ ∀ id, id < hn → qm.get id = hm.get id) ∧ (d.take k).all isDig = true ∧ (k = 0 ∨ d.length ≤ 2) ∧ k ≤ d.length ∧
  e.get 0 = some (.str w) ∧ e.get 4 = some (.str d) ∧ e.get 3 = some (.int .i64 ↑(valD (d.take k))) ∧ e.get 10 = some (.ptr hn 0)) ?_ ?_
 ·refine ⟨_, _, _, rfl, ?_, ⟨Nat.lt_succ_self _, fun id hid => ?_⟩, ?_, .inl rfl, Nat.zero_le _, ?_, ?_, ?_, ?_⟩
  rotate_left
  ·have e1 : (hn == id) = false := by rw [beq_eq_false_iff_ne]; omega
   simp only [go_sem, *, Nat.reduceLT, Int.reduceEq, Int.reduceBEq, Int.reduceLE, Int.reduceLT, Nat.reduceAdd, Nat.reduceBEq, Nat.reduceEqDiff, reduceIte, Nat.reduceLeDiff, Nat.reduceMul, Nat.reduceSub, reduceCtorEq]
  all_goals first | exact Z2 | simp [valD, go_sem, *, Nat.reduceLT, Int.reduceEq, Int.reduceBEq, Int.reduceLE, Int.reduceLT, Nat.reduceAdd, Nat.reduceBEq, Nat.reduceEqDiff, reduceIte, Nat.reduceLeDiff, Nat.reduceMul, Nat.reduceSub, reduceCtorEq]
 rintro k F ⟨e, qn, qm, rfl, hgi, hx, hall, hk2, hk, h0, h4, h3, h10⟩
 have HX := Lib.hid hx
 have HALL := Lib.hid hall
 have HK2 := Lib.hid hk2
 clear hx hall hk2
 by_cases hlt : k < d.length
 ·obtain ⟨b, hb⟩ := get_some hlt
  obtain ⟨r, z, hdec, hr1, hr2⟩ := dec_is hb
  have HR1 := Lib.hid hr1
  have HR2 := Lib.hid hr2
  have HB := Lib.hid hb
  clear hr1 hr2 hb
  by_cases hok : (isDig b && decide ((d.length : Int) ≤ 2)) = true
  ·simp only [Bool.and_eq_true] at hok
   obtain ⟨hbd, hd2⟩ := hok
   have hl2 : d.length ≤ 2 := by simp only [decide_eq_true_eq] at hd2; omega
   obtain ⟨rfl, rfl⟩ := HR1.out hbd
   have hr := HR2.out
   rw [hbd] at hr
   simp only [Bool.and_eq_true] at hr
   obtain ⟨hge, hle⟩ := hr
   have hbb := dig_bds hbd
   have hvb : valD (d.take k) ≤ 9 := by
    have h1 : (d.take k).length ≤ 1 := by rw [List.length_take]; omega
    have h2 := HALL.out
    match d.take k, h1, h2 with
    | [], _, _ => decide
    | [x], _, h2 =>
     simp [isDig] at h2
     simp [valD]
     omega
    | _ :: _ :: _, h1, _ => simp at h1
   have ws : IntKind.i32.wrap ((b.toNat : Int) - 48) = ((b.toNat - 48 : Nat) : Int) := by
    simp [IntKind.wrap, IntKind.bits, IntKind.signed]
    omega
   have wc : IntKind.i64.wrap ((b.toNat - 48 : Nat) : Int) = ((b.toNat - 48 : Nat) : Int) := wrap_small (by omega) (by omega)
   have wm : IntKind.i64.wrap (10 * ((valD (d.take k) : Nat) : Int)) = 10 * ((valD (d.take k) : Nat) : Int) := wrap_small (by omega) (by omega)
   have wn : IntKind.i64.wrap (10 * ((valD (d.take k) : Nat) : Int) + ((b.toNat - 48 : Nat) : Int)) = ((valD (d.take (k + 1)) : Nat) : Int) := by
    rw [val_next HB.out, wrap_small (by omega) (by omega)]
    omega
   have k185 := fun h => C185 c hc1 true w h
   simp only [sureC, if_true] at k185
   have HLT := Lib.hid hlt
   have HBD := Lib.hid hbd
   have HL2 := Lib.hid hl2
   clear hbd hl2 hbb hvb
   generalize valD (d.take (k + 1)) = vn at *
   generalize valD (d.take k) = vk at *
   generalize ((b.toNat - 48 : Nat) : Int) = bs at *
   repeat' (first | (apply WO1.nextS (hr := hdec); exact Z1; (focus (exact hgi)); (focus (exact hlt)); exact rfl; simp only [pM, pN]) | refine go1 ?_ | (apply U6; exact Z1; exact Z1; (focus (simp only [List.nil_append, List.append_nil]; first | exact k185 _)); simp only [pM, pN, rR, rP]) | refine go2 (fun hh => ?_) (fun hh => ?_) | fail)
   refine ⟨HLT.out, _, _, _, rfl, ?_, ⟨HX.out.1, ?_⟩, ?_, .inr HL2.out, HLT.out, ?_, ?_, ?_, ?_⟩
   ·simp only [go_sem, *, Nat.reduceLT, Int.reduceEq, Int.reduceBEq, Int.reduceLE, Int.reduceLT, Nat.reduceAdd, Nat.reduceBEq, Nat.reduceEqDiff, reduceIte, Nat.reduceLeDiff, Nat.reduceMul, Nat.reduceSub, reduceCtorEq]
   ·intro id hid
    have e1 : (hn == id) = false := by rw [beq_eq_false_iff_ne]; omega
    have := HX.out.2 id hid
    simp only [go_sem, *, Nat.reduceLT, Int.reduceEq, Int.reduceBEq, Int.reduceLE, Int.reduceLT, Nat.reduceAdd, Nat.reduceBEq, Nat.reduceEqDiff, reduceIte, Nat.reduceLeDiff, Nat.reduceMul, Nat.reduceSub, reduceCtorEq]
   ·rw [take_next HB.out, List.all_append, HALL.out]
    simp [HBD.out]
   all_goals exact Z2
  ·have hok : (isDig b && decide ((d.length : Int) ≤ 2)) = false := by simpa using hok
   have hno : numW w = none := by
    refine num_noform ?_
    rw [HD0.out]
    unfold formD
    rw [Bool.and_eq_false_iff] at hok ⊢
    rcases hok with q | q
    ·left
     rw [List.all_eq_false]
     exact ⟨b, List.mem_of_getElem? HB.out, by rw [q]; decide⟩
    ·right
     simp only [decide_eq_false_iff_not] at q ⊢
     omega
   have HNO := Lib.hid hno
   have k185 := fun h => C185 c hc1 false w h
   simp only [sureC, Bool.false_eq_true, if_false] at k185
   have hcase : (decide ((r : Int) ≥ 48) = false) ∨ (decide ((r : Int) ≥ 48) = true ∧ decide ((r : Int) ≤ 57) = false) ∨ (decide ((r : Int) ≥ 48) = true ∧ decide ((r : Int) ≤ 57) = true ∧ decide ((d.length : Int) ≤ 2) = false) := by
    have hr := HR2.out
    revert hok hr
    cases decide ((r : Int) ≥ 48) <;> cases decide ((r : Int) ≤ 57) <;> cases decide ((d.length : Int) ≤ 2) <;> cases isDig b <;> simp
   have HLT := Lib.hid hlt
   clear hok hno
   rcases hcase with hge | ⟨hge, hle⟩ | ⟨hge, hle, hd2⟩
   all_goals (
    repeat' (first | (apply WO1.nextS (hr := hdec); exact Z1; (focus (exact hgi)); (focus (exact hlt)); exact rfl; simp only [pM, pN]) | (simp only [tP, bP, eP, true_and]) | refine go1 ?_ | (apply U6; exact Z1; exact Z1; (focus (simp only [List.nil_append, List.append_nil]; first | exact k185 _)); simp only [pM, pN, rR, rP]) | refine go2 (fun hh => ?_) (fun hh => ?_) | fail)
    refine numR_pan ⟨Nat.le_of_lt HX.out.1, fun id hid => ?_⟩ HNO.out
    have hid : id < hn := hid
    have e1 : (hn == id) = false := by rw [beq_eq_false_iff_ne]; omega
    have := HX.out.2 id hid
    simp only [go_sem, *, Nat.reduceLT, Int.reduceEq, Int.reduceBEq, Int.reduceLE, Int.reduceLT, Nat.reduceAdd, Nat.reduceBEq, Nat.reduceEqDiff, reduceIte, Nat.reduceLeDiff, Nat.reduceMul, Nat.reduceSub, reduceCtorEq])
 ·have hkl : d.take k = d := List.take_of_length_le (by omega)
  rw [hkl] at h3
  have hall := HALL.out
  rw [hkl] at hall
  have hf : d = [] ∨ formD d = true := by
   rcases HK2.out with q | q
   ·left
    exact List.eq_nil_of_length_eq_zero (by omega)
   ·right
    unfold formD
    rw [hall]
    simpa using q
  have hv : valD d ≤ 99 := by
   rcases hf with rfl | q
   ·decide
   ·exact val_form q
  have hnw : numW w = if (!d.isEmpty && itoaF (sgnV w d) == w) = true then some (sgnV w d) else none := by
   unfold numW
   rw [HD0.out]
   rcases hf with rfl | q
   ·rfl
   ·rw [q]
    rfl
  have hsn : smallI (sgnV w d) = true := by
   unfold smallI sgnV
   simp only [Bool.and_eq_true, decide_eq_true_eq]
   split <;> omega
  have k181 := fun h => K181 (X := dX c) hc3 (sgnV w d) hsn h
  have HNW := Lib.hid hnw
  have HLT := Lib.hid hlt
  have hxx : HExt ⟨hn, hm⟩ ⟨qn, qm⟩ := ⟨Nat.le_of_lt HX.out.1, HX.out.2⟩
  have HXX := Lib.hid hxx
  clear hnw hsn hf hall hkl hk hxx
  have hlss : decide ((d.length : Int) < (w.length : Int)) = decide (d.length < w.length) := by
   rw [Bool.eq_iff_iff]; simp
  have hemp : (!(d == ([] : List UInt8))) = !d.isEmpty := by cases d <;> rfl
  have hemp2 : (d != ([] : List UInt8)) = !d.isEmpty := by cases d <;> rfl
  have hsg : sgnV w d = if decide (d.length < w.length) = true then -(valD d : Int) else (valD d : Int) := by unfold sgnV; simp
  have wng : IntKind.i64.wrap (-(valD d : Int)) = -(valD d : Int) := wrap_small (by omega) (by omega)
  generalize sgnV w d = n at *
  generalize hq : decide (d.length < w.length) = lw at *
  generalize d.isEmpty = em at *
  generalize hq2 : (itoaF n == w) = eq at *
  have HSG := Lib.hid hsg
  clear hsg hv hdl hq hw0
  generalize valD d = vd at *
  have hcs : lw = true ∨ lw = false := by cases lw <;> simp
  rcases hcs with rfl | rfl
  ·obtain rfl : n = -(vd : Int) := by have := HSG.out; simpa using this
   cases em with
   | true =>
    have k185 := fun h => C185 c hc1 false w h
    simp only [sureC, Bool.false_eq_true, if_false] at k185
    repeat' (first | (apply WO1.nextN; exact Z1; (focus (exact hgi)); (focus (exact hlt)); exact rfl; simp only [pM, pN]) | (simp only [tP, bP, eP, true_and]) | refine go1 ?_ | (apply U6; exact Z1; exact Z1; (focus (simp only [List.nil_append, List.append_nil]; first | exact k185 _)); simp only [pM, pN, rR, rP]) | refine go2 (fun hh => ?_) (fun hh => ?_) | fail)
    exact numR_pan HXX.out (by rw [HNW.out]; rfl)
   | false =>
    cases eq with
    | true =>
     have k185 := fun h => C185 c hc1 true w h
     simp only [sureC, if_true] at k185
     repeat' (first | (apply WO1.nextN; exact Z1; (focus (exact hgi)); (focus (exact hlt)); exact rfl; simp only [pM, pN]) | refine go1 ?_ | (apply U6; exact Z1; exact Z1; (focus (simp only [List.nil_append, List.append_nil]; first | exact k185 _ | exact k181 _)); simp only [pM, pN, rR, rP]) | refine go2 (fun hh => ?_) (fun hh => ?_) | fail)
     all_goals (simp only [resV_def (X := dX c) Tryz.func202, Tryz.results202]; first | exact J5 | refine J6 ?_)
     exact numR_ret HXX.out (by rw [HNW.out]; rfl)
    | false =>
     have k185 := fun h => C185 c hc1 false w h
     simp only [sureC, Bool.false_eq_true, if_false] at k185
     repeat' (first | (apply WO1.nextN; exact Z1; (focus (exact hgi)); (focus (exact hlt)); exact rfl; simp only [pM, pN]) | (simp only [tP, bP, eP, true_and]) | refine go1 ?_ | (apply U6; exact Z1; exact Z1; (focus (simp only [List.nil_append, List.append_nil]; first | exact k185 _ | exact k181 _)); simp only [pM, pN, rR, rP]) | refine go2 (fun hh => ?_) (fun hh => ?_) | fail)
     exact numR_pan HXX.out (by rw [HNW.out]; rfl)
  ·obtain rfl : n = (vd : Int) := by have := HSG.out; simpa using this
   cases em with
   | true =>
    have k185 := fun h => C185 c hc1 false w h
    simp only [sureC, Bool.false_eq_true, if_false] at k185
    repeat' (first | (apply WO1.nextN; exact Z1; (focus (exact hgi)); (focus (exact hlt)); exact rfl; simp only [pM, pN]) | (simp only [tP, bP, eP, true_and]) | refine go1 ?_ | (apply U6; exact Z1; exact Z1; (focus (simp only [List.nil_append, List.append_nil]; first | exact k185 _)); simp only [pM, pN, rR, rP]) | refine go2 (fun hh => ?_) (fun hh => ?_) | fail)
    exact numR_pan HXX.out (by rw [HNW.out]; rfl)
   | false =>
    cases eq with
    | true =>
     have k185 := fun h => C185 c hc1 true w h
     simp only [sureC, if_true] at k185
     repeat' (first | (apply WO1.nextN; exact Z1; (focus (exact hgi)); (focus (exact hlt)); exact rfl; simp only [pM, pN]) | refine go1 ?_ | (apply U6; exact Z1; exact Z1; (focus (simp only [List.nil_append, List.append_nil]; first | exact k185 _ | exact k181 _)); simp only [pM, pN, rR, rP]) | refine go2 (fun hh => ?_) (fun hh => ?_) | fail)
     all_goals (simp only [resV_def (X := dX c) Tryz.func202, Tryz.results202]; first | exact J5 | refine J6 ?_)
     exact numR_ret HXX.out (by rw [HNW.out]; rfl)
    | false =>
     have k185 := fun h => C185 c hc1 false w h
     simp only [sureC, Bool.false_eq_true, if_false] at k185
     repeat' (first | (apply WO1.nextN; exact Z1; (focus (exact hgi)); (focus (exact hlt)); exact rfl; simp only [pM, pN]) | (simp only [tP, bP, eP, true_and]) | refine go1 ?_ | (apply U6; exact Z1; exact Z1; (focus (simp only [List.nil_append, List.append_nil]; first | exact k185 _ | exact k181 _)); simp only [pM, pN, rR, rP]) | refine go2 (fun hh => ?_) (fun hh => ?_) | fail)
     exact numR_pan HXX.out (by rw [HNW.out]; rfl)
end Go.AM
namespace Go.AM
open Go Go.Proofs
variable [Keep]
attribute [local irreducible] W WO WO1 WD WQ WT thenQ blockQ endR isRet retK Cl ClR
def txtC : Cd (List UInt8) where
 enc s := .str s
 dec a := match a with | .str s => some s | _ => none
 de _ := rfl
 ed a x h := by split at h <;> cases h; rfl
 pur _ := rfl
theorem strs_idx {a : AV} {l : List (List UInt8)} (h : slV txtC a = some l) {k : Nat} {s : List UInt8} (hp : l[k]? = some s) (H : Heap) : indexAddrV Tryz.prog H 208 a (.int .i64 ↑k) = some (.vptr [.str s]) :=
 (slV_is h).1.idx (x := .str s) Tryz.underlying208 ty_lay9 (by simp [hp, txtC]) rfl
theorem strs_sl (l : List (List UInt8)) (h : l.length ≤ maxL) : slV txtC (.vslice (l.map AV.str)) = some l := by
 have := decL_map txtC l
 unfold slV
 simp only
 rw [if_pos (by rw [List.length_map]; exact h)]
 exact this
theorem cut208 {l : List (List UInt8)} {a : Nat} {x : Int} (hx : x = (a : Int)) (ha : a ≤ l.length) : ∀ H, sliceV Tryz.prog H 208 (.vslice (l.map AV.str)) (some (some (.int .i64 x))) none none = some (.vslice ((l.drop a).map AV.str)) := by
 intro H
 subst hx
 have hh : headOk 1 (l.map AV.str) = true := by cases l <;> rfl
 have b1 : boundV none (l.map AV.str).length (l.map AV.str).length = some l.length := by simp [boundV]
 have b2 : boundV (some (some (.int .i64 (a : Int)))) 0 l.length = some a := by
  simp only [boundV]
  rw [if_pos (by omega)]
  simp
 simp only [sliceV, Tryz.underlying208, ty_lay9, lenS_vslice, boundsV, b1, b2, cutV, hh, Bool.false_eq_true, if_false, if_true]
 rw [List.take_of_length_le (by simp), List.map_drop]
theorem cut208b {l : List (List UInt8)} {b : Nat} {x : Int} (hx : x = (b : Int)) (hb : b ≤ l.length) : ∀ H, sliceV Tryz.prog H 208 (.vslice (l.map AV.str)) none (some (some (.int .i64 x))) none = some (.vslice ((l.take b).map AV.str)) := by
 intro H
 subst hx
 have hh : headOk 1 (l.map AV.str) = true := by cases l <;> rfl
 have b1 : boundV (some (some (.int .i64 (b : Int)))) (l.map AV.str).length (l.map AV.str).length = some b := by
  simp only [boundV]
  rw [if_pos (by simp; omega)]
  simp
 have b2 : boundV none 0 b = some 0 := by simp [boundV]
 simp only [sliceV, Tryz.underlying208, ty_lay9, lenS_vslice, boundsV, b1, b2, cutV, hh, Bool.false_eq_true, if_false, if_true]
 rw [List.drop_zero, List.map_take]
theorem cut208c {l : List (List UInt8)} {a b : Nat} {x y : Int} (hx : x = (a : Int)) (hy : y = (b : Int)) (hab : a ≤ b) (hb : b ≤ l.length) : ∀ H, sliceV Tryz.prog H 208 (.vslice (l.map AV.str)) (some (some (.int .i64 x))) (some (some (.int .i64 y))) none = some (.vslice (((l.take b).drop a).map AV.str)) := by
 intro H
 subst hx
 subst hy
 have hh : headOk 1 (l.map AV.str) = true := by cases l <;> rfl
 have b1 : boundV (some (some (.int .i64 (b : Int)))) (l.map AV.str).length (l.map AV.str).length = some b := by
  simp only [boundV]
  rw [if_pos (by simp; omega)]
  simp
 have b2 : boundV (some (some (.int .i64 (a : Int)))) 0 b = some a := by
  simp only [boundV]
  rw [if_pos (by omega)]
  simp
 simp only [sliceV, Tryz.underlying208, ty_lay9, lenS_vslice, boundsV, b1, b2, cutV, hh, Bool.false_eq_true, if_false, if_true]
 rw [List.map_drop, List.map_take]
theorem spL_len (b : UInt8) : ∀ s : List UInt8, (spL b s).length ≤ s.length + 1 ∧ ∀ p ∈ spL b s, p.length ≤ s.length := by
 intro s
 induction s with
 | nil => exact ⟨Nat.le_refl _, fun p hp => by simp [spL] at hp; subst hp; exact Nat.le_refl _⟩
 | cons c r ih =>
  simp only [spL]
  split
  ·refine ⟨by simp only [List.length_cons]; omega, fun p hp => ?_⟩
   rcases List.mem_cons.1 hp with rfl | hp
   ·exact Nat.zero_le _
   ·have := ih.2 p hp
    simp only [List.length_cons]
    omega
  ·split
   ·rename_i q
    exact absurd q (spL_ne b r)
   ·rename_i p0 l q
    rw [q] at ih
    refine ⟨by have := ih.1; simp only [List.length_cons] at this ⊢; omega, fun p hp => ?_⟩
    rcases List.mem_cons.1 hp with rfl | hp
    ·have := ih.2 p0 (List.mem_cons_self ..)
     simp only [List.length_cons]
     omega
    ·have := ih.2 p (List.mem_cons_of_mem _ hp)
     simp only [List.length_cons]
     omega
def intsE (l : List Int) : List AV := l.map (AV.int .i64)
def numsR (s w : List UInt8) (many : Nat) (h : Heap) (r : COut) : Prop := ∃ h', HExt h h' ∧ match numsW s w many with | some l => r = .ret (slN (intsE l)) h' none | none => ∃ u, r = .pan (.iface 205 (.agg [.str u])) h' none
theorem numsR_fail {s w : List UInt8} {many : Nat} {h : Heap} : ¬ numsR s w many h .fail := by
 rintro ⟨h', _, e⟩
 split at e
 ·cases e
 ·obtain ⟨u, e⟩ := e
  cases e
theorem numsR_pan {s w u : List UInt8} {many : Nat} {h h' : Heap} (x : HExt h h') (e : numsW s w many = none) : numsR s w many h (.pan (.iface 205 (.agg [.str u])) h' none) := ⟨h', x, by rw [e]; exact ⟨u, rfl⟩⟩
theorem numsR_ret {s w : List UInt8} {many : Nat} {h h' : Heap} {l : List Int} (x : HExt h h') (e : numsW s w many = some l) : numsR s w many h (.ret (slN (intsE l)) h' none) := ⟨h', x, by rw [e]⟩
theorem intsE_app (l : List Int) (n : Int) : intsE (l ++ [n]) = intsE l ++ [.int .i64 n] := by simp [intsE]
theorem intsE_len (l : List Int) : (intsE l).length = l.length := by simp [intsE]
theorem numsW_no {s w : List UInt8} {many : Nat} (h : ¬ ((spL 32 s).length = many + 1 ∧ (spL 32 s).getD 0 [] = w)) : numsW s w many = none := if_neg h
theorem numsW_yes {s w : List UInt8} {many : Nat} (h : (spL 32 s).length = many + 1 ∧ (spL 32 s).getD 0 [] = w) : numsW s w many = mapO numW ((spL 32 s).drop 1) := if_pos h
attribute [local irreducible] numsR numsW numW
set_option maxHeartbeats 2000000 in
theorem C184 (c : Itr) (hc : c 184 = none) (hc0 : c 202 = none) (hc1 : c 185 = none) (hc2 : c 210 = some (pureFn sp221)) (hc3 : c 181 = some (atOnce spItoa)) (hc4 : c 183 = some (atOnce spSplit)) (s w : List UInt8) (many : Nat) (h : Heap) (hs : s.length ≤ 1000) (hm : many ≤ 4) :
  ClR (dX c) 184 [.str s, .str w, .int .i64 (many : Int)] h (numsR s w many h) := by
 have k183 := fun h => K183 (X := dX c) hc4 s 32 (by unfold maxL; omega) h
 obtain ⟨hl1, hl2⟩ := spL_len 32 s
 have hyes := numsW_yes (s := s) (w := w) (many := many)
 have hno := numsW_no (s := s) (w := w) (many := many)
 have hne := spL_ne 32 s
 generalize spL 32 s = ws at *
 obtain ⟨w0, rest, rfl⟩ : ∃ w0 rest, ws = w0 :: rest := by
  cases ws with
  | nil => exact absurd rfl hne
  | cons a b => exact ⟨a, b, rfl⟩
 have ha := strs_sl (w0 :: rest) (by unfold maxL; omega)
 have hcut := cut208 (l := w0 :: rest) (a := 1) (x := 1) rfl (by simp)
 have hb := strs_sl rest (by simp only [List.length_cons] at hl1; unfold maxL; omega)
 have hlen := sl_len ha
 have hout := sl_out ha
 have hix0 : ∀ H, indexAddrV Tryz.prog H 208 (.vslice ((w0 :: rest).map AV.str)) (.int .i64 0) = some (.vptr [.str w0]) := fun H => strs_idx ha (k := 0) rfl H
 have hlenb := sl_len hb
 have houtb := sl_out hb
 simp only [List.drop_succ_cons, List.drop_zero] at hcut
 generalize AV.vslice ((w0 :: rest).map AV.str) = va at *
 generalize hvb : AV.vslice (rest.map AV.str) = vb at *
 have hwm : IntKind.i64.wrap ((many : Int) + 1) = ((many + 1 : Nat) : Int) := by rw [wrap_small (by omega) (by omega)]; omega
 have HB0 := Lib.hid hb
 have HYES := Lib.hid hyes
 have HNO := Lib.hid hno
 have HL2 := Lib.hid hl2
 clear ha hb hyes hno hne hl2 hvb
 by_cases hlw : (w0 :: rest).length = many + 1
 ·have heq : (((w0 :: rest).length : Int) == ((many + 1 : Nat) : Int)) = true := by rw [beq_iff_eq]; omega
  by_cases hw0 : w0 = w
  ·subst hw0
   have hq : (w0 == w0) = true := beq_self_eq_true w0
   have hnm : numsW s w0 many = mapO numW rest := HYES.out ⟨hlw, rfl⟩
   have hrl : rest.length = many := by simpa using hlw
   have HNM := Lib.hid hnm
   have HRL := Lib.hid hrl
   have k185 := fun h => C185 c hc1 true s h
   simp only [sureC, if_true] at k185
   generalize (w0 :: rest).length = L at *
   clear hnm hrl hlw hl1
   refine ClR.walk (c := _) hc Tryz.func184 rfl (by kernel_rfl) rfl numsR_fail ?_
   simp only [entryEnv, Nat.reduceAdd]
   repeat' (first | (apply U4 (v := vb); (focus (simp only [go_sem, *, Nat.reduceLT, Int.reduceEq, Int.reduceBEq, Int.reduceLE, Int.reduceLT, Nat.reduceAdd, Nat.reduceBEq, Nat.reduceEqDiff, reduceIte, Nat.reduceLeDiff, Nat.reduceMul, Nat.reduceSub, reduceCtorEq, Option.map_none, Option.map_some]; done)); exact rfl; simp only [pM, pN, rR, rP]) | refine go1 ?_ | (apply U6; exact Z1; exact Z1; (focus (simp only [List.nil_append, List.append_nil]; first | exact k183 _ | exact k185 _)); simp only [pM, pN, rR, rP]) | refine go2 (fun hh => ?_) (fun hh => ?_) | fail)
   clear k183 hcut hix0 hwm heq hq hlen
   refine W.loopN rest.length (fun k F => ∃ e hp u acc, F = Fr.mk 184 false e .nil hp [] none ∧ mapO numW (rest.take k) = some acc ∧ BltN h.next hp u 1 (intsE acc) ∧ (h.next ≤ hp.next ∧ ∀ id, id < h.next → hp.get id = h.get id) ∧ acc.length = k ∧
    e.get 8 = some u ∧ e.get 29 = some vb ∧ e.get 30 = some (.int .i64 ↑rest.length) ∧ e.get 31 = some (.int .i64 ↑k) ∧ k ≤ rest.length) ?_ ?_
   ·refine ⟨_, _, _, [], rfl, rfl, BltN.nil, ⟨Nat.le_refl _, fun _ _ => rfl⟩, rfl, ?_, ?_, ?_, ?_, Nat.zero_le _⟩ <;> first | exact Z2 | simp [go_sem, *]
   rintro k F ⟨e, hp, u, acc, rfl, hmo, hB, hX, hal, h8, h29, h30, h31, hk⟩
   have hbo := hB.blt.out
   have HMO := Lib.hid hmo
   have HAL := Lib.hid hal
   clear hmo hal
   by_cases hlt : k < rest.length
   ·obtain ⟨p, hp'⟩ := get_some hlt
    have hix := fun H => strs_idx HB0.out hp' H
    have hd : decide ((k : Int) < (rest.length : Int)) = true := by simpa using hlt
    have hw := wrap_succ hlt (by have := HRL.out; unfold maxL; omega)
    have hpl := HL2.out p (List.mem_cons_of_mem _ (List.mem_of_getElem? hp'))
    have hc1' := C202 c hc0 hc1 hc2 hc3 p hp (by omega)
    unfold ClR numR at hc1'
    obtain ⟨r, hcl, hq, hqx, hr⟩ := hc1'
    have HP := Lib.hid hp'
    have HLT := Lib.hid hlt
    clear hp' hpl hlt
    cases hnw : numW p with
    | none =>
     rw [hnw] at hr
     simp only at hr
     subst hr
     have hnn : numsW s w0 many = none := by rw [HNM.out]; exact mapO_none (List.mem_of_getElem? HP.out) hnw
     have HNN := Lib.hid hnn
     clear hnw hnn
     have hx2 : HExt h hq := ⟨Nat.le_trans hX.1 hqx.1, fun id hid => (hqx.2 id (Nat.lt_of_lt_of_le hid hX.1)).trans (hX.2 id hid)⟩
     have HX2 := Lib.hid hx2
     clear hx2 hqx hX hB
     repeat' (first | (simp only [tP, bP, eP, true_and]) | refine go1 ?_ | (apply U6; exact Z1; exact Z1; (focus (simp only [List.nil_append, List.append_nil]; first | exact hcl)); simp only [pM, pN, rR, rP]) | refine go2 (fun hh => ?_) (fun hh => ?_) | fail)
     exact numsR_pan HX2.out HNN.out
    | some v =>
     rw [hnw] at hr
     simp only at hr
     subst hr
     have hnx := mapO_next HP.out HMO.out hnw
     have HNX := Lib.hid hnx
     clear hnx hnw
     replace hB := hB.keep hqx
     replace hX : h.next ≤ hq.next ∧ ∀ id, id < h.next → hq.get id = h.get id := ⟨Nat.le_trans hX.1 hqx.1, fun id hid => (hqx.2 id (Nat.lt_of_lt_of_le hid hX.1)).trans (hX.2 id hid)⟩
     have hbo := hB.blt.out
     have hll : (intsE acc).length + 1 ≤ most := by rw [intsE_len]; have := HAL.out; have := HRL.out; have := HLT.out; unfold most; omega
     clear hqx
     repeat' (first | (apply WO1.appendN (t := 39) (u := 39) (e := 3) (e' := 3) (sz := 1) (tl := []) (b := h.next) (h0 := h) (hb := hB) (hx := hX); exact Z1; exact rfl; exact Z2; exact Z2; exact Z2; (focus (exact ty_row39)); exact Z1; (focus (intro v hv; simp at hv; subst hv; rfl)); (focus (simp only [List.length_map, List.length_cons, List.length_nil]; exact hll)); (focus (simp)); (intro v' h' hB' ho' hX'; have hcc' := hB'.blt.cells; have htt' := hB'.blt.tup; simp only [AV.cells] at hcc'; simp only [isTuple] at htt'; simp only [pM, pN])) | refine go1 ?_ | (apply U6; exact Z1; exact Z1; (focus (simp only [List.nil_append, List.append_nil]; first | exact hcl)); simp only [pM, pN, rR, rP]) | refine go2 (fun hh => ?_) (fun hh => ?_) | fail)
     refine ⟨HLT.out, _, _, v', acc ++ [v], rfl, HNX.out, ?_, hX', ?_, ?_, ?_, ?_, ?_, HLT.out⟩
     ·rw [intsE_app]; exact hB'
     ·have := HAL.out; simp [this]
     all_goals exact Z2
   ·have hd : decide ((k : Int) < (rest.length : Int)) = false := by simpa using hlt
    have hkl : rest.take k = rest := List.take_of_length_le (by omega)
    have hnn : numsW s w0 many = some acc := by rw [HNM.out, ← hkl]; exact HMO.out
    obtain ⟨h', hz, hz2, hz1, g1, g2⟩ := hB.freeze
    have hx2 : HExt h h' := ⟨by rw [g1]; exact hX.1, fun id hid => (g2 id hid).trans (hX.2 id hid)⟩
    have HNN := Lib.hid hnn
    have HX2 := Lib.hid hx2
    clear hnn hkl g1 g2 hx2 hX hB
    repeat' (first | refine goS ?_ | refine go2 (fun hh => ?_) (fun hh => ?_) | fail)
    all_goals (simp only [resV_def (X := dX c) Tryz.func184, Tryz.results184]; first | exact J5 | refine J6 ?_)
    exact numsR_ret HX2.out HNN.out
  ·have hq : (w0 == w) = false := by simpa using hw0
   have hnm : numsW s w many = none := HNO.out (fun q => hw0 q.2)
   have HNM := Lib.hid hnm
   have k185 := fun h => C185 c hc1 false s h
   simp only [sureC, Bool.false_eq_true, if_false] at k185
   generalize (w0 :: rest).length = L at *
   clear hnm hlw hl1 hw0
   refine ClR.walk (c := _) hc Tryz.func184 rfl (by kernel_rfl) rfl numsR_fail ?_
   simp only [entryEnv, Nat.reduceAdd]
   repeat' (first | (apply U4 (v := vb); (focus (simp only [go_sem, *, Nat.reduceLT, Int.reduceEq, Int.reduceBEq, Int.reduceLE, Int.reduceLT, Nat.reduceAdd, Nat.reduceBEq, Nat.reduceEqDiff, reduceIte, Nat.reduceLeDiff, Nat.reduceMul, Nat.reduceSub, reduceCtorEq, Option.map_none, Option.map_some]; done)); exact rfl; simp only [pM, pN, rR, rP]) | (simp only [tP, bP, eP, true_and]) | refine go1 ?_ | (apply U6; exact Z1; exact Z1; (focus (simp only [List.nil_append, List.append_nil]; first | exact k183 _ | exact k185 _)); simp only [pM, pN, rR, rP]) | refine go2 (fun hh => ?_) (fun hh => ?_) | fail)
   exact numsR_pan (HExt.refl _) HNM.out
 ·have heq : (((w0 :: rest).length : Int) == ((many + 1 : Nat) : Int)) = false := by rw [beq_eq_false_iff_ne]; omega
  have hnm : numsW s w many = none := HNO.out (fun q => hlw q.1)
  have HNM := Lib.hid hnm
  have k185 := fun h => C185 c hc1 false s h
  simp only [sureC, Bool.false_eq_true, if_false] at k185
  generalize (w0 :: rest).length = L at *
  clear hnm hlw hl1
  refine ClR.walk (c := _) hc Tryz.func184 rfl (by kernel_rfl) rfl numsR_fail ?_
  simp only [entryEnv, Nat.reduceAdd]
  repeat' (first | (apply U4 (v := vb); (focus (simp only [go_sem, *, Nat.reduceLT, Int.reduceEq, Int.reduceBEq, Int.reduceLE, Int.reduceLT, Nat.reduceAdd, Nat.reduceBEq, Nat.reduceEqDiff, reduceIte, Nat.reduceLeDiff, Nat.reduceMul, Nat.reduceSub, reduceCtorEq, Option.map_none, Option.map_some]; done)); exact rfl; simp only [pM, pN, rR, rP]) | (simp only [tP, bP, eP, true_and]) | refine go1 ?_ | (apply U6; exact Z1; exact Z1; (focus (simp only [List.nil_append, List.append_nil]; first | exact k183 _ | exact k185 _)); simp only [pM, pN, rR, rP]) | refine go2 (fun hh => ?_) (fun hh => ?_) | fail)
  exact numsR_pan (HExt.refl _) HNM.out
end Go.AM
namespace Go.AM
open Go
variable [Keep]
def viewD (h : Heap) (a : AV) : Option AV :=
 match a with
 | .agg l => (viewVs h l).map AV.agg
 | a => viewV h a
def viewDs (h : Heap) : List AV → Option (List AV)
 | [] => some []
 | a :: r => match viewD h a, viewDs h r with
  | some x, some l => some (x :: l)
  | _, _ => none
def flatFnD (spec : List AV → Option AV) : List AV → Heap → Option (AV × Heap) := fun args h => match viewDs h args with
 | some l => (match spec l with | some v => some (v, h) | none => none)
 | none => none
theorem viewV_one {h : Heap} {a a' : AV} (e : viewV h a = some a') (ho : a.one = true) : a'.one = true := by
 unfold viewV at e
 split at e
 ·split at e
  ·split at e
   ·split at e
    ·cases e; rfl
    ·cases e
   ·cases e
  ·cases e
 ·split at e
  ·cases e; exact ho
  ·cases e
theorem viewVs_get {h : Heap} : ∀ {l l' : List AV}, viewVs h l = some l' → l'.length = l.length ∧ ∀ i, i < l.length → viewV h (l.getD i .junk) = some (l'.getD i .junk) := by
 intro l
 induction l with
 | nil => intro l' e; simp only [viewVs, Option.some.injEq] at e; subst e; exact ⟨rfl, fun i hi => by simp at hi⟩
 | cons a l ih =>
  intro l' e
  simp only [viewVs] at e
  split at e
  ·rename_i x l1 hx hl
   cases e
   obtain ⟨h1, h2⟩ := ih hl
   refine ⟨by simp [h1], fun i hi => ?_⟩
   cases i with
   | zero => simpa using hx
   | succ i => simpa using h2 i (by simpa using hi)
  ·cases e
theorem purL_of : ∀ {l : List AV}, (∀ a ∈ l, a.pur = true) → AV.purL l = true := by
 intro l
 induction l with
 | nil => intro _; rfl
 | cons a l ih =>
  intro h
  simp only [AV.purL, Bool.and_eq_true]
  exact ⟨h a (by simp), ih (fun b hb => h b (by simp [hb]))⟩
variable {C : Cfg} {h : Heap} {w : World}
theorem viewD_ok (r : WR C h w) {a a' : AV} {v : Value} (hv : VR C a v) (e : viewD h a = some a') : a'.pur = true ∧ VR ⟨fun _ => none, w.cell?⟩ a' v := by
 unfold viewD at e
 split at e
 ·rename_i l
  simp only [Option.map_eq_some_iff] at e
  obtain ⟨l', e, rfl⟩ := e
  obtain ⟨e1, e2⟩ := viewVs_get e
  cases hv with
  | agg h1 h2 h3 =>
   have hk : ∀ i, i < l.length → (l'.getD i .junk).pur = true ∧ VR ⟨fun _ => none, w.cell?⟩ (l'.getD i .junk) _ := fun i hi => viewV_ok r (h2 i hi) (e2 i hi)
   refine ⟨?_, .agg (by omega) (fun i hi => (hk i (by omega)).2) (fun c hc => ?_)⟩
   ·simp only [AV.pur]
    refine purL_of fun b hb => ?_
    obtain ⟨i, hi⟩ := List.mem_iff_getElem?.1 hb
    have hil : i < l.length := by
     rcases Nat.lt_or_ge i l.length with q | q
     ·exact q
     ·rw [List.getElem?_eq_none (by omega)] at hi; cases hi
    have := (hk i hil).1
    simpa [List.getD, hi] using this
   ·obtain ⟨i, hi⟩ := List.mem_iff_getElem?.1 hc
    have hil : i < l.length := by
     rcases Nat.lt_or_ge i l.length with q | q
     ·exact q
     ·rw [List.getElem?_eq_none (by omega)] at hi; cases hi
    have h5 := e2 i hil
    have h6 : (l'.getD i .junk) = c := by simp [List.getD, hi]
    rw [h6] at h5
    refine viewV_one h5 (h3 _ ?_)
    have : l.getD i .junk = l[i] := by simp [List.getD, hil]
    rw [this]
    exact List.getElem_mem hil
 ·exact viewV_ok r hv e
theorem viewDs_ok (r : WR C h w) : ∀ {l l' : List AV} {vs : Array Value}, VRs C l vs → viewDs h l = some l' → (∀ a ∈ l', a.pur = true) ∧ VRs ⟨fun _ => none, w.cell?⟩ l' vs := by
 intro l
 induction l with
 | nil =>
  intro l' vs hv e
  simp only [viewDs, Option.some.injEq] at e
  subst e
  exact ⟨by simp, hv.1, fun i hi => by simp at hi⟩
 | cons a l ih =>
  intro l' vs hv e
  simp only [viewDs] at e
  split at e
  ·rename_i x l1 hx hl
   cases e
   have h0 : VR C a (vs.getD 0 undef) := by simpa using hv.2 0 (by simp)
   obtain ⟨p1, p2⟩ := viewD_ok r h0 hx
   have hsz : vs.size = l.length + 1 := by have := hv.1; simpa using this
   have ht : VRs C l (vs.extract 1 vs.size) := by
    refine ⟨by simp [hsz], fun i hi => ?_⟩
    have := hv.2 (i + 1) (by simp; omega)
    have e2 : (vs.extract 1 vs.size).getD i undef = vs.getD (i + 1) undef := by
     simp only [Array.getD_eq_getD_getElem?]
     rw [Array.getElem?_extract]
     have : i < vs.size - 1 := by omega
     simp [this, Nat.add_comm]
    rw [e2]
    simpa using this
   obtain ⟨q1, q2⟩ := ih ht hl
   refine ⟨by simpa [p1] using q1, ?_⟩
   have := VRs.cons p2 q2
   have e3 : #[vs.getD 0 undef] ++ vs.extract 1 vs.size = vs := by
    apply Array.ext_getElem?
    intro i
    cases i with
    | zero =>
     have : 0 < vs.size := by omega
     simp [Array.getElem?_append, Array.getD_eq_getD_getElem?, this]
    | succ i =>
     rw [Array.getElem?_append_right (by simp)]
     simp only [List.size_toArray, List.length_cons, List.length_nil, Nat.zero_add, Nat.add_sub_cancel, Array.getElem?_extract]
     by_cases hi : i < vs.size - 1
     ·simp [hi, Nat.add_comm]
     ·have : vs.size ≤ i + 1 := by omega
      simp [hi, this]
   rw [e3] at this
   exact this
  ·cases e
theorem flatD_intr {X : Ctx} (s : Sound X) {f : FuncId} {spec : List AV → Option AV} (hp : ∀ args v, spec args = some v → v.flat = true) (hr : ∀ args v, spec args = some v → ∃ h', Cl X f args emptyHp (.ret v h' none)) : IntrFn X.P f (flatFnD spec) := by
  intro args h v h' hg C w vs r hv
  unfold flatFnD at hg
  split at hg
  · rename_i l hl
    split at hg
    · rename_i u hsp
      cases hg
      obtain ⟨h1, n, hn⟩ := hr l v hsp
      have hcall := hn n (Nat.le_refl _)
      obtain ⟨p1, p2⟩ := viewDs_ok r hv hl
      have hok := s.call n f l emptyHp ⟨fun _ => none, w.cell?⟩ w vs ⟨fun _ _ h => h, fun id blk e => by simp [emptyHp, Heap.get] at e, fun id id' blk blk' L L' e => by simp [emptyHp, Heap.get] at e, fun id blk L x v e => by simp [emptyHp, Heap.get] at e, fun id L e => (by cases e), r.base.on r.sig (fun _ _ _ => rfl)⟩ p2 (by rw [hcall]; intro e; cases e)
      refine ⟨hok.1, fun cs => ?_⟩
      have := hok.2 cs
      rw [hcall] at this
      obtain ⟨C', w', fr, u, q1, q2, q3, q4, q5, q6⟩ := this
      have hsame : ∀ β, β < w.heap.size → w'.heap[β]? = w.heap[β]? := fun β hb => q6.same β hb emptyHp_live id
      refine ⟨C, w', fr, u, q1, q2, q3, q4.flat (hp _ _ hsp), ⟨fun x u e => ?_, fun id blk e => ?_, r.inj, r.apart, r.fresh, r.base.on (fun _ _ e => e) (fun x v e => hsame _ (WR.sig_lt (F := Fr.mk 0 false .nil .nil h [] none) r e))⟩, ?_⟩
      · have h1 := r.sig x u e
        have hb := WR.sig_lt (F := Fr.mk 0 false .nil .nil h [] none) r e
        unfold World.cell? at h1 ⊢
        rw [hsame _ hb]
        exact h1
      · obtain ⟨L, k1, k2⟩ := r.blk id blk e
        exact ⟨L, k1, k2.same (.refl C) (hsame _ k2.lt)⟩
      · exact { le := .refl C, os := q6.os, tape := q6.tape, output := q6.output, size := q6.size, same := fun β hb _ _ => hsame β hb, live := fun β hb l => .inl l,
                own := fun _ _ o => o.elim, sig := fun x u hb e => .inl e, next := Nat.le_refl _ }
    · cases hg
  · cases hg
end Go.AM
namespace Go.AM
open Go Go.Proofs
variable [Keep]
attribute [local irreducible] W WO WO1 WD WQ WT thenQ blockQ endR isRet retK Cl ClR
theorem bwdS_len (ax : Ax) : ∀ n (out t : List Sp), bwdS ax n out = some t → t.length = out.length := by
 intro n
 induction n with
 | zero => intro out t h; simp [bwdS] at h; rw [h]
 | succ n ih =>
  intro out t h
  rw [bwdS_succ] at h
  split at h
  ·cases h
  ·rw [ih _ _ h]; simp
theorem boundsS_len {ax : Ax} {o : List Sp} (h : boundsS ax = some o) : o.length = 13 := by
 rw [boundsS_def] at h
 cases hf : fwdS ax 13 with
 | none => rw [hf] at h; cases h
 | some out =>
  rw [hf] at h
  rw [bwdS_len ax 12 out o h, fwdS_len ax 13 out hf]
theorem sl_one {α : Type} {c : Cd α} {a : AV} {l : List α} (h : slV c a = some l) : a.one = true ∧ isTuple a = false := by
 rcases (slV_is h).1 with ⟨rfl | rfl, _⟩ | rfl <;> exact ⟨rfl, rfl⟩
end Go.AM
namespace Go.AM
open Go
variable [Keep]
def SeeV {α : Type} (h : Heap) (c : Cd α) (a : AV) (l : List α) : Prop := ∃ a', viewV h a = some a' ∧ slV c a' = some l
theorem SeeV.of {α : Type} {c : Cd α} {a : AV} {l : List α} (hl : slV c a = some l) (h : Heap) : SeeV h c a l := by
 have hp := sl_pur hl
 rcases (slV_is hl).1 with ⟨rfl | rfl, _⟩ | rfl
 ·exact ⟨_, rfl, hl⟩
 ·exact ⟨_, rfl, hl⟩
 ·exact ⟨_, by simp only [viewV, hp, if_true], hl⟩
theorem viewD_mach {h : Heap} {sa ra sa' ra' : AV} {cxl cxh cyl cyh wxl wxh wyl wyh : Int} (h1 : viewV h sa = some sa') (h2 : viewV h ra = some ra') :
  viewD h (.agg [sa, .int .i64 cxl, .int .i64 cxh, .int .i64 cyl, .int .i64 cyh, .int .i64 wxl, .int .i64 wxh, .int .i64 wyl, .int .i64 wyh, ra]) = some (.agg [sa', .int .i64 cxl, .int .i64 cxh, .int .i64 cyl, .int .i64 cyh, .int .i64 wxl, .int .i64 wxh, .int .i64 wyl, .int .i64 wyh, ra']) := by
 have e : ∀ n, viewV h (.int .i64 n) = some (.int .i64 n) := fun n => rfl
 simp only [viewD, viewVs, h1, h2, e, Option.map_some]
end Go.AM
namespace Go.AM
open Go
theorem maxV_eq (x y : Int) : maxV x y = max x y := by unfold maxV; rw [Int.max_def]; split <;> split <;> omega
theorem minV_eq (x y : Int) : minV x y = min x y := by unfold minV; rw [Int.min_def]; split <;> split <;> omega
theorem interS_lo (a b : Sp) : (interS a b).lo = max a.lo b.lo := maxV_eq _ _
theorem interS_hi (a b : Sp) : (interS a b).hi = min a.hi b.hi := minV_eq _ _
theorem Sp.ext2 {a b : Sp} (h1 : a.lo = b.lo) (h2 : a.hi = b.hi) : a = b := by cases a; cases b; simp_all
theorem interS_right (a b c : Sp) : interS (interS a b) c = interS (interS a c) b := Sp.ext2 (by simp only [interS_lo]; omega) (by simp only [interS_hi]; omega)
theorem emp_inter {a b : Sp} (h : empS a = true) : empS (interS a b) = true := by
 simp only [empS, decide_eq_true_eq, interS_lo, interS_hi] at *
 omega
theorem getD_set_same {l : List Sp} {n : Nat} {x : Sp} (h : n < l.length) : (l.set n x).getD n ⟨0, 0⟩ = x := by simp [List.getD, h]
theorem getD_set_ne {l : List Sp} {n j : Nat} {x : Sp} (h : n ≠ j) : (l.set n x).getD j ⟨0, 0⟩ = l.getD j ⟨0, 0⟩ := by simp [List.getD, List.getElem?_set, h]
def allS (b : Int) : List Lim → Sp → Sp
 | [], s => s
 | m :: r, s => if m.b == b then allS b r (interS s m.sp) else allS b r s
theorem allS_emp (b : Int) : ∀ (l : List Lim) (s : Sp), empS s = true → empS (allS b l s) = true := by
 intro l
 induction l with
 | nil => intro s h; exact h
 | cons m r ih =>
  intro s h
  simp only [allS]
  split
  ·exact ih _ (emp_inter h)
  ·exact ih _ h
theorem allS_inter (b : Int) : ∀ (l : List Lim) (s t : Sp), interS (allS b l s) t = allS b l (interS s t) := by
 intro l
 induction l with
 | nil => intro s t; rfl
 | cons m r ih =>
  intro s t
  simp only [allS]
  split
  ·rw [ih, interS_right]
  ·rw [ih]
theorem limS_all (b : Int) : ∀ (l : List Lim) (s : Sp), empS s = false → (∀ t, limS b l s = some t → t = allS b l s ∧ empS t = false) ∧ (limS b l s = none → empS (allS b l s) = true) := by
 intro l
 induction l with
 | nil => intro s h; simp [limS, allS, h]
 | cons m r ih =>
  intro s h
  simp only [limS, allS]
  split
  ·cases e : empS (interS s m.sp) with
   | true =>
    refine ⟨fun t h' => by simp at h', fun _ => allS_emp _ _ _ e⟩
   | false =>
    simp only [Bool.false_eq_true, if_false]
    exact ih _ e
  ·exact ih _ h
def onS (ax : Ax) : Nat → Sp
 | 0 => allS 0 ax.limits ax.chuck
 | k + 1 => allS ((k + 1 : Nat) : Int) ax.limits (nxtS ax (onS ax k))
theorem range_snoc (f : Nat → Sp) (k : Nat) : (List.range (k + 1)).map f = (List.range k).map f ++ [f k] := by simp [List.range_succ]
theorem fwd_on (ax : Ax) (hc : empS ax.chuck = false) (hn : ∀ k, k < 12 → empS (onS ax k) = false → empS (nxtS ax (onS ax k)) = false) : ∀ k, k ≤ 13 →
  (∀ out, fwdS ax k = some out → out = (List.range k).map (onS ax) ∧ ∀ j, j < k → empS (onS ax j) = false) ∧ (fwdS ax k = none → ∃ j, j < k ∧ empS (onS ax j) = true) := by
 intro k
 induction k with
 | zero => intro _; simp [fwdS]
 | succ k ih =>
  intro hk
  obtain ⟨h1, h2⟩ := ih (by omega)
  simp only [fwdS]
  cases ho : fwdS ax k with
  | none =>
   refine ⟨fun out h => by simp at h, fun _ => ?_⟩
   obtain ⟨j, hj, he⟩ := h2 ho
   exact ⟨j, by omega, he⟩
  | some out =>
   obtain ⟨e1, e2⟩ := h1 out ho
   have hst : empS (startS ax out k) = false ∧ allS k ax.limits (startS ax out k) = onS ax k := by
    cases k with
    | zero => exact ⟨hc, rfl⟩
    | succ k =>
     have : startS ax out (k + 1) = nxtS ax (onS ax k) := by
      unfold startS
      rw [if_neg (by omega), e1]
      simp [List.getD]
     rw [this]
     exact ⟨hn k (by omega) (e2 k (by omega)), rfl⟩
   obtain ⟨l1, l2⟩ := limS_all k ax.limits (startS ax out k) hst.1
   simp only
   cases hl : limS k ax.limits (startS ax out k) with
   | none =>
    refine ⟨fun out h => by simp at h, fun _ => ⟨k, by omega, ?_⟩⟩
    rw [← hst.2]
    exact l2 hl
   | some s =>
    obtain ⟨g1, g2⟩ := l1 s hl
    refine ⟨fun out' h => ?_, fun h => by simp at h⟩
    simp only [Option.some.injEq] at h
    subst h
    rw [hst.2] at g1
    subst g1
    refine ⟨by rw [range_snoc, ← e1], fun j hj => ?_⟩
    rcases Nat.lt_or_ge j k with h | h
    ·exact e2 j h
    ·have : j = k := by omega
     subst this
     exact g2
def backS (ax : Ax) : Nat → List Sp → List Sp
 | 0, out => out
 | n + 1, out => backS ax n (out.set n (interS (out.getD n ⟨0, 0⟩) (prvS ax (out.getD (n + 1) ⟨0, 0⟩))))
theorem back_len (ax : Ax) : ∀ n (out : List Sp), (backS ax n out).length = out.length := by
 intro n
 induction n with
 | zero => intro out; rfl
 | succ n ih => intro out; simp [backS, ih]
theorem back_keep (ax : Ax) : ∀ n (out : List Sp) (j : Nat), n ≤ j → (backS ax n out).getD j ⟨0, 0⟩ = out.getD j ⟨0, 0⟩ := by
 intro n
 induction n with
 | zero => intro out j _; rfl
 | succ n ih =>
  intro out j h
  simp only [backS]
  rw [ih _ j (by omega), getD_set_ne (by omega)]
theorem back_emp (ax : Ax) : ∀ n (out : List Sp) (j : Nat), n ≤ out.length → empS (out.getD j ⟨0, 0⟩) = true → empS ((backS ax n out).getD j ⟨0, 0⟩) = true := by
 intro n
 induction n with
 | zero => intro out j _ h; exact h
 | succ n ih =>
  intro out j hl h
  simp only [backS]
  refine ih _ j (by simp; omega) ?_
  by_cases hj : n = j
  ·subst hj
   have : (out.set n (interS (out.getD n ⟨0, 0⟩) (prvS ax (out.getD (n + 1) ⟨0, 0⟩)))).getD n ⟨0, 0⟩ = interS (out.getD n ⟨0, 0⟩) (prvS ax (out.getD (n + 1) ⟨0, 0⟩)) := getD_set_same (by omega)
   rw [this]
   exact emp_inter h
  ·have : (out.set n (interS (out.getD n ⟨0, 0⟩) (prvS ax (out.getD (n + 1) ⟨0, 0⟩)))).getD j ⟨0, 0⟩ = out.getD j ⟨0, 0⟩ := getD_set_ne hj
   rw [this]
   exact h
theorem bwd_back (ax : Ax) : ∀ n (out : List Sp), n < out.length → (∀ t, bwdS ax n out = some t → t = backS ax n out ∧ ∀ j, j < n → empS (t.getD j ⟨0, 0⟩) = false) ∧ (bwdS ax n out = none → ∃ j, j < n ∧ empS ((backS ax n out).getD j ⟨0, 0⟩) = true) := by
 intro n
 induction n with
 | zero => intro out _; simp [bwdS, backS]
 | succ n ih =>
  intro out hl
  simp only [bwdS, backS]
  have hset : (out.set n (interS (out.getD n ⟨0, 0⟩) (prvS ax (out.getD (n + 1) ⟨0, 0⟩)))).getD n ⟨0, 0⟩ = interS (out.getD n ⟨0, 0⟩) (prvS ax (out.getD (n + 1) ⟨0, 0⟩)) := getD_set_same (by omega)
  cases e : empS (interS (out.getD n ⟨0, 0⟩) (prvS ax (out.getD (n + 1) ⟨0, 0⟩))) with
  | true =>
   refine ⟨fun t h => by simp at h, fun _ => ⟨n, by omega, ?_⟩⟩
   rw [back_keep _ _ _ _ (Nat.le_refl _), hset]
   exact e
  | false =>
   simp only [Bool.false_eq_true, if_false]
   obtain ⟨h1, h2⟩ := ih (out.set n (interS (out.getD n ⟨0, 0⟩) (prvS ax (out.getD (n + 1) ⟨0, 0⟩)))) (by simp; omega)
   refine ⟨fun t h => ?_, fun h => ?_⟩
   ·obtain ⟨g1, g2⟩ := h1 t h
    refine ⟨g1, fun j hj => ?_⟩
    rcases Nat.lt_or_ge j n with h' | h'
    ·exact g2 j h'
    ·have : j = n := by omega
     subst this
     rw [g1, back_keep _ _ _ _ (Nat.le_refl _), hset]
     exact e
   ·obtain ⟨j, hj, he⟩ := h2 h
    exact ⟨j, by omega, he⟩
def refS (ax : Ax) : Option (List Sp) := if (backS ax 12 ((List.range 13).map (onS ax))).any empS then none else some (backS ax 12 ((List.range 13).map (onS ax)))
theorem any_getD {l : List Sp} {j : Nat} (hj : j < l.length) (h : empS (l.getD j ⟨0, 0⟩) = true) : l.any empS = true :=
 List.any_eq_true.2 ⟨l[j], List.getElem_mem hj, by simpa [List.getD, hj] using h⟩
theorem bounds_ref [Keep] (ax : Ax) (hc : empS ax.chuck = false) (hn : ∀ k, k < 12 → empS (onS ax k) = false → empS (nxtS ax (onS ax k)) = false) : boundsS ax = refS ax := by
 obtain ⟨h1, h2⟩ := fwd_on ax hc hn 13 (Nat.le_refl _)
 have hlen : (backS ax 12 ((List.range 13).map (onS ax))).length = 13 := by rw [back_len]; simp
 rw [boundsS_def]
 unfold refS
 cases hf : fwdS ax 13 with
 | none =>
  obtain ⟨j, hj, he⟩ := h2 hf
  have : ((List.range 13).map (onS ax)).getD j ⟨0, 0⟩ = onS ax j := by simp [List.getD, hj]
  have := back_emp ax 12 ((List.range 13).map (onS ax)) j (by simp) (by rw [this]; exact he)
  rw [any_getD (by omega) this]
  rfl
 | some out =>
  obtain ⟨rfl, g2⟩ := h1 out hf
  simp only
  obtain ⟨b1, b2⟩ := bwd_back ax 12 ((List.range 13).map (onS ax)) (by simp)
  cases hb : bwdS ax 12 ((List.range 13).map (onS ax)) with
  | none =>
   obtain ⟨j, hj, he⟩ := b2 hb
   rw [any_getD (by omega) he]
   rfl
  | some t =>
   obtain ⟨e1, e2⟩ := b1 t hb
   have : (backS ax 12 ((List.range 13).map (onS ax))).any empS = false := by
    rw [List.any_eq_false]
    intro x hx
    obtain ⟨j, hj⟩ := List.mem_iff_getElem?.1 hx
    have hjl : j < 13 := by
     rcases Nat.lt_or_ge j 13 with h | h
     ·exact h
     ·rw [List.getElem?_eq_none (by omega)] at hj; cases hj
    have hg : (backS ax 12 ((List.range 13).map (onS ax))).getD j ⟨0, 0⟩ = x := by simp [List.getD, hj]
    rcases Nat.lt_or_ge j 12 with h | h
    ·have := e2 j h
     rw [e1, hg] at this
     simp [this]
    ·have : j = 12 := by omega
     subst this
     rw [back_keep _ _ _ _ (Nat.le_refl _)] at hg
     have h12 : ((List.range 13).map (onS ax)).getD 12 ⟨0, 0⟩ = onS ax 12 := by simp [List.getD]
     rw [h12] at hg
     rw [← hg, g2 12 (by omega)]
     simp
   rw [this, e1]
   rfl
end Go.AM
