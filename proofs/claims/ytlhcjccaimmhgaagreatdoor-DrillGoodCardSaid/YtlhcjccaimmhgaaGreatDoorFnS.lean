/-
  DrillGood: the plain law.
-/
import Derived.Test.YtlhcjccaimmhgaaGreatDoorFnR
import Derived.Test.YtlhcjccaimmhgaaGreatDoorFnE
import Derived.Test.YtlhcjccaimmhgaaGreatDoorFnD
import Derived.Test.YtlhcjccaimmhgaaGreatDoorFnQ
set_option linter.unusedSectionVars false
set_option linter.unusedVariables false
set_option linter.unusedSimpArgs false
set_option maxRecDepth 100000
namespace Go.AM
open Go Go.Proofs
variable [Keep]
attribute [local irreducible] W WO WO1 WD WQ WT thenQ blockQ endR isRet retK Cl ClR
attribute [local irreducible] matchS boundsS machB measB sureW goodB askOk heldI gaugeN sureAt
theorem sure_at (G : Pt → Bool) (a b : List Sp) (n : Nat) : sureAt G a b n = sureW G (a.getD n ⟨0, 0⟩) (b.getD n ⟨0, 0⟩) := by unfold sureAt; rfl
end Go.AM
set_option maxRecDepth 100000
namespace Go.AM
open Go Go.Proofs
variable [Keep]
attribute [local irreducible] W WO WO1 WD WQ WT thenQ blockQ endR isRet retK Cl ClR
attribute [local irreducible] boundsS machB fitsM truthB
theorem movedL_len (l : List Pt) (x y : Int) : (movedL l x y).length = l.length := by simp [movedL]
end Go.AM
set_option maxRecDepth 100000
namespace Go.AM
open Go Go.Proofs
variable [Keep]
attribute [local irreducible] W WO WO1 WD WQ WT thenQ blockQ endR isRet retK Cl ClR
attribute [local irreducible] matchS boundsS machB measB sureW goodB askOk gaugeN sureAt fitsM truthB upAny rowAny
section
variable {X : Ctx} {ops : Array Oper} {K P : AV → Fr → Prop} {F : Fr} {d : Option Tmp} {op : Op} {T : TypeId} {p : String} {af : Array Edge} {j : Nat} {want : Bool} {o : Oper} {t : Tmp}
theorem WO1.gud (ho : ops[j]? = some o) (ht : o.dst = some t) (hb : F.e.get t = some undefA) (h : K undefA (F.put d undefA)) : WO1 X ops ⟨d, op, T, p, af, some (j, want)⟩ F K P := by
  have hg : guardOk ops F ⟨d, op, T, p, af, some (j, want)⟩ = true := by simp [guardOk, ho, ht, hb, undefA]
  have hw : wantedA ops F ⟨d, op, T, p, af, some (j, want)⟩ = false := by simp [wantedA, yieldedA, ho, ht, hb, undefA]
  unfold WO1
  exact ⟨.val undefA (F.put d undefA), ⟨0, fun m _ => by simp [stepOp, hg, hw]⟩, h⟩
end
theorem sure_val (G : Pt → Bool) (x y : Sp) : sureW G x y = 1 ∨ sureW G x y = 2 ∨ sureW G x y = 3 := by
  rw [sure_def]
  split
  · split
    · exact .inr (.inl rfl)
    · exact .inl rfl
  · exact .inr (.inr rfl)
theorem up_in {G : Pt → Bool} {x y : Sp} {p q : Int} (h1 : x.lo ≤ p) (h2 : p ≤ x.hi) (h3 : y.lo ≤ q) (h4 : q ≤ y.hi) (h : G ⟨p, q⟩ = true) : upAny G x y (ny x) = true := by
  unfold upAny rowAny
  rw [List.any_eq_true]
  refine ⟨(p - x.lo).toNat, ?_, ?_⟩
  · rw [List.mem_range]
    unfold ny
    omega
  · rw [List.any_eq_true]
    refine ⟨(q - y.lo).toNat, ?_, ?_⟩
    · rw [List.mem_range]
      unfold ny
      omega
    · have e1 : x.lo + ((p - x.lo).toNat : Int) = p := by omega
      have e2 : y.lo + ((q - y.lo).toNat : Int) = q := by omega
      rw [e1, e2]
      exact h
theorem sure_three {G : Pt → Bool} {x y : Sp} {p q : Int} (h1 : x.lo ≤ p) (h2 : p ≤ x.hi) (h3 : y.lo ≤ q) (h4 : q ≤ y.hi) (h : sureW G x y = 3) : G ⟨p, q⟩ = true := by
  cases hg : G ⟨p, q⟩ with
  | true => rfl
  | false =>
    have := up_in (G := fun p => !G p) h1 h2 h3 h4 (by simp [hg])
    rw [sure_def, if_pos this] at h
    split at h <;> cases h
theorem sure_one {G : Pt → Bool} {x y : Sp} {p q : Int} (h1 : x.lo ≤ p) (h2 : p ≤ x.hi) (h3 : y.lo ≤ q) (h4 : q ≤ y.hi) (h : sureW G x y = 1) : G ⟨p, q⟩ = false := by
  cases hg : G ⟨p, q⟩ with
  | false => rfl
  | true =>
    have := up_in (G := G) h1 h2 h3 h4 hg
    rw [sure_def, if_pos this] at h
    split at h <;> cases h
theorem gauge_is (f : Nat → Int) : gaugeN f ≤ 12 ∧ (∀ k, 1 ≤ k → k ≤ gaugeN f → f k = 3) ∧ (gaugeN f < 12 → f (gaugeN f + 1) ≠ 3) := by
  by_cases h : ∀ j, j < 12 → f (j + 1) = 3
  · rw [gauge_all h]
    refine ⟨Nat.le_refl _, fun k h1 h2 => ?_, fun e => by omega⟩
    have := h (k - 1) (by omega)
    rw [show k - 1 + 1 = k by omega] at this
    exact this
  ·
    have hex : ∃ i, i < 12 ∧ f (i + 1) ≠ 3 ∧ ∀ j, j < i → f (j + 1) = 3 := by
      have key : ∀ m, (∀ j, j < m → f (j + 1) = 3) ∨ ∃ i, i < m ∧ f (i + 1) ≠ 3 ∧ ∀ j, j < i → f (j + 1) = 3 := by
        intro m
        induction m with
        | zero => exact .inl fun j hj => by omega
        | succ m ih =>
          rcases ih with q | ⟨i, q1, q2, q3⟩
          · by_cases hm : f (m + 1) = 3
            · refine .inl fun j hj => ?_
              rcases Nat.lt_or_ge j m with c | c
              · exact q j c
              · obtain rfl : j = m := by omega
                exact hm
            · exact .inr ⟨m, by omega, hm, q⟩
          · exact .inr ⟨i, by omega, q2, q3⟩
      rcases key 12 with q | q
      · exact absurd q h
      · exact q
    obtain ⟨i, h1, h2, h3⟩ := hex
    rw [gauge_at h3 h1 h2]
    refine ⟨by omega, fun k hk1 hk2 => ?_, fun _ => h2⟩
    have := h3 (k - 1) (by omega)
    rw [show k - 1 + 1 = k by omega] at this
    exact this
theorem mach_stops {st : List Pt} {cx cy wx wy : Sp} {rs : List Rdg} (h : machB st cx cy wx wy rs = true) : st.all (okPt 20) = true := by
  unfold machB at h
  simp only [allB_P, pointsB, Bool.and_eq_true] at h
  simp_all
theorem moved_ok {st : List Pt} {x y : Int} (h : st.all (okPt 20) = true) (h1 : -48 ≤ x) (h2 : x ≤ 48) (h3 : -48 ≤ y) (h4 : y ≤ 48) : (movedL st x y).all (okPt 80) = true := by
  refine List.all_eq_true.2 fun p hp => ?_
  obtain ⟨q, hq, rfl⟩ := List.mem_map.1 hp
  have := List.all_eq_true.1 h q hq
  have e : w64 (-20) = -20 := rfl
  simp only [okPt, inB, e, Bool.and_eq_true, decide_eq_true_eq] at this
  have e1 : w64 (q.x + x) = q.x + x := wrap_small (by omega) (by omega)
  have e2 : w64 (q.y + y) = q.y + y := wrap_small (by omega) (by omega)
  rw [ok80]
  simp only [e1, e2]
  omega
end Go.AM
