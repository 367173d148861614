/-
  Texts of the proof: an evaluator of the program's code, its soundness, contracts of functions.
-/
import Derived.Test.YtlhcjccaimmhgaaGreatDoorRAH
import Derived.Test.YtlhcjccaimmhgaaGreatDoorRAE
set_option linter.unusedSectionVars false
set_option linter.unusedVariables false
set_option linter.unusedSimpArgs false
set_option maxRecDepth 100000
namespace Go.AM
open Go Go.Proofs
variable [Keep]
attribute [local irreducible] W WO WO1 WD WQ WT thenQ blockQ endR isRet retK Cl ClR
attribute [local irreducible] matchS
def encT (tab : List (Pt × Bool)) : List (AV × AV) := tab.map fun e => (.agg [.int .i64 e.1.x, .int .i64 e.1.y], .bool e.2)
def TabOk (G : Pt → Bool) (tab : List (Pt × Bool)) : Prop := ∀ e ∈ tab, e.2 = G e.1
section
variable {X : Ctx} {ops : Array Oper} {K P : AV → Fr → Prop} {F : Fr} {d : Option Tmp} {T : TypeId} {ps : String} {af : Array Edge}
end
end Go.AM
set_option linter.unusedSectionVars false
set_option linter.unusedVariables false
set_option linter.unusedSimpArgs false
set_option maxRecDepth 100000
namespace Go.AM
open Go Go.Proofs
variable [Keep]
attribute [local irreducible] W WO WO1 WD WQ WT thenQ blockQ endR isRet retK Cl ClR
attribute [local irreducible] matchS
def goodB (off : Int) (hs st : List Pt) (p : Pt) : Bool := (matchS off hs (movedL st p.x p.y)).isSome
def goodR (h : Heap) (id : Nat) (G : Pt → Bool) (b : Bool) (r : COut) : Prop := ∃ h' tab', r = .ret (.bool b) h' none ∧ h'.next = h.next ∧ h'.get id = some (.mp (encT tab')) ∧ TabOk G tab' ∧ ∀ j, j ≠ id → h'.get j = h.get j
end Go.AM
set_option linter.unusedSectionVars false
set_option linter.unusedVariables false
set_option linter.unusedSimpArgs false
set_option maxRecDepth 100000
namespace Go.AM
open Go Go.Proofs
variable [Keep]
attribute [local irreducible] W WO WO1 WD WQ WT thenQ blockQ endR isRet retK Cl ClR
attribute [local irreducible] matchS goodB goodR
def rowAny (G : Pt → Bool) (x y : Sp) (i : Nat) (k : Nat) : Bool := (List.range k).any fun b => G ⟨x.lo + i, y.lo + b⟩
def ny (y : Sp) : Nat := (y.hi - y.lo + 1).toNat
def upAny (G : Pt → Bool) (x y : Sp) (i : Nat) : Bool := (List.range i).any fun a => rowAny G x y a (ny y)
def sureW (G : Pt → Bool) (x y : Sp) : Int := if upAny (fun p => !G p) x y (ny x) then (if upAny G x y (ny x) then 2 else 1) else 3
structure SpOk (x : Sp) : Prop where
  lo : -1000 ≤ x.lo
  lo2 : x.lo ≤ 1000
  hi : x.hi ≤ 1000
  hi2 : -1000 ≤ x.hi
end Go.AM
set_option linter.unusedSectionVars false
set_option linter.unusedVariables false
set_option linter.unusedSimpArgs false
set_option maxRecDepth 100000
namespace Go.AM
open Go Go.Proofs
variable [Keep]
attribute [local irreducible] W WO WO1 WD WQ WT thenQ blockQ endR isRet retK Cl ClR
noncomputable def cGP : FuncId → Option (List AV → Heap → Option (AV × Heap))
  | 99 => some (pureFn sp99)
  | 101 => some (flatFn sp101)
  | 103 => some (onHeap h103)
  | _ => none
theorem cGP_sound : Sound (dX cGP) := dX_sound (fun f g h => by
  unfold cGP at h
  split at h
  · cases h; exact F99
  · cases h; exact F101
  · cases h; exact H103
  · cases h)
def askV (ok : Bool) (A B : Option (List Sp)) : AV :=
  if ok then (match A, B with
    | some a, some b => .tuple [.agg [slN (a.map spC.enc), slN (b.map spC.enc)], .int .i64 0]
    | _, _ => .tuple [.agg [.nilslice, .nilslice], .int .i64 7]) else .tuple [.agg [.nilslice, .nilslice], .int .i64 2]
def askOk (hs st : List Pt) (off : Int) (m fine : Bool) : Bool := measB hs off && m && decide (st.length = hs.length) && fine
def sp107 : List AV → Option AV
  | [.agg [ca, .int .i64 off], .agg [sa, .int .i64 cxl, .int .i64 cxh, .int .i64 cyl, .int .i64 cyh, .int .i64 wxl, .int .i64 wxh, .int .i64 wyl, .int .i64 wyh, ra], .bool fine] => match slV ptC ca, slV ptC sa, slV rdgC ra with
    | some hs, some st, some rs => some (askV (askOk hs st off (machB st ⟨cxl, cxh⟩ ⟨cyl, cyh⟩ ⟨wxl, wxh⟩ ⟨wyl, wyh⟩ rs) fine) (boundsS (ax0 ⟨cxl, cxh⟩ ⟨wxl, wxh⟩ rs [])) (boundsS (ax1 ⟨cyl, cyh⟩ ⟨wyl, wyh⟩ rs [])))
    | _, _, _ => none
  | _ => none
theorem p107 : ∀ args v, sp107 args = some v → v.pur = true := by
  intro args v h
  unfold sp107 at h
  split at h
  · split at h
    · have h := Option.some.inj h
      subst h
      unfold askV
      split
      · split
        · simp [AV.pur, AV.purL, slN_pur (enc_pur spC _)]
        · rfl
      · rfl
    · cases h
  · cases h
attribute [local irreducible] boundsS machB measB
set_option maxHeartbeats 4000000 in
theorem F107 : IntrFn Tryz.prog 107 (pureFn sp107) := by
  refine pure_fn (X := dX cGP) cGP_sound p107 ?_
  intro args v h
  unfold sp107 at h
  split at h
  · rename_i ca off sa cxl cxh cyl cyh wxl wxh wyl wyh ra fine
    split at h
    · rename_i hs st rs hc hl hr
      have h := Option.some.inj h
      subst h
      have o1 := sl_out hc
      have o2 := sl_out hl
      have o3 := sl_out hr
      have l1 := sl_len hc
      have l2 := sl_len hl
      obtain ⟨one1, t1⟩ := sl_one hc
      obtain ⟨one2, t2⟩ := sl_one hl
      obtain ⟨one3, t3⟩ := sl_one hr
      have k99 : ∀ h, Cl (dX cGP) 99 [.agg [ca, .int .i64 off]] h (.ret (.bool (measB hs off)) h none) := fun h => Cl.intr (g := pureFn sp99) rfl (by simp [pureFn, AV.pur, AV.purL, sl_pur hc, sp99, hc])
      have k101 := fun hp => K101 (X := dX cGP) rfl sa ra st rs ⟨cxl, cxh⟩ ⟨cyl, cyh⟩ ⟨wxl, wxh⟩ ⟨wyl, wyh⟩ hl hr hp
      have hk : ∀ (hp : Heap) (mv : AV), mv.one = true → Cl (dX cGP) 103 [.agg [sa, .int .i64 cxl, .int .i64 cxh, .int .i64 cyl, .int .i64 cyh, .int .i64 wxl, .int .i64 wxh, .int .i64 wyl, .int .i64 wyh, ra, mv], .nilslice] hp (.ret (knV (ax0 ⟨cxl, cxh⟩ ⟨wxl, wxh⟩ rs []) (ax1 ⟨cyl, cyh⟩ ⟨wyl, wyh⟩ rs [])) hp none) :=
        fun hp mv hmv => K103h (X := dX cGP) rfl sa ra mv ⟨cxl, cxh⟩ ⟨cyl, cyh⟩ ⟨wxl, wxh⟩ ⟨wyl, wyh⟩ rs hr one2 hmv hp
      have h102 := fun n m => C102 cGP rfl sa ra ⟨cxl, cxh⟩ ⟨cyl, cyh⟩ ⟨wxl, wxh⟩ ⟨wyl, wyh⟩ (slV_is hl).1.frz1 (slV_is hr).1.frz1 n m
      have HOK := Lib.hid (show askOk hs st off (machB st ⟨cxl, cxh⟩ ⟨cyl, cyh⟩ ⟨wxl, wxh⟩ ⟨wyl, wyh⟩ rs) fine = (measB hs off && machB st ⟨cxl, cxh⟩ ⟨cyl, cyh⟩ ⟨wxl, wxh⟩ ⟨wyl, wyh⟩ rs && decide (st.length = hs.length) && fine) from rfl)
      generalize askOk hs st off (machB st ⟨cxl, cxh⟩ ⟨cyl, cyh⟩ ⟨wxl, wxh⟩ ⟨wyl, wyh⟩ rs) fine = ok at *
      generalize machB st ⟨cxl, cxh⟩ ⟨cyl, cyh⟩ ⟨wxl, wxh⟩ ⟨wyl, wyh⟩ rs = b2 at *
      generalize measB hs off = b1 at *
      generalize ax0 ⟨cxl, cxh⟩ ⟨wxl, wxh⟩ rs [] = A at *
      generalize ax1 ⟨cyl, cyh⟩ ⟨wyl, wyh⟩ rs [] = B at *
      have H102 := Lib.hid h102
      clear hc hl hr h102
      refine ClR.walk (c := _) rfl Tryz.func107 rfl (by kernel_rfl) rfl isRet_fail ?_
      simp only [entryEnv, Nat.reduceAdd, emptyHp]
      have hcase : (b1 = false) ∨ (b1 = true ∧ b2 = false) ∨ (b1 = true ∧ b2 = true ∧ ((st.length : Int) != (hs.length : Int)) = true) ∨ (b1 = true ∧ b2 = true ∧ ((st.length : Int) != (hs.length : Int)) = false ∧ fine = false) ∨ (b1 = true ∧ b2 = true ∧ ((st.length : Int) != (hs.length : Int)) = false ∧ fine = true) := by
        cases b1 <;> cases b2 <;> cases fine <;> cases ((st.length : Int) != (hs.length : Int)) <;> simp
      rcases hcase with q1 | ⟨q1, q2⟩ | ⟨q1, q2, q3⟩ | ⟨q1, q2, q3, q4⟩ | ⟨q1, q2, q3, q4⟩
      case inr.inr.inr.inr =>
        have hlen : decide (st.length = hs.length) = true := by
          have := q3
          simp at this ⊢
          omega
        have hok : ok = true := by rw [HOK.out, q1, q2, hlen, q4]; rfl
        subst q1 q2 q4
        rw [hok]
        clear HOK hok hlen
        rw [knV_def] at hk
        have none1 : ∀ (o p : Option (List Sp)), o = none ∨ p = none → knO o p = .tuple [.agg [.nilslice, .nilslice], .bool false] ∧ askV true o p = .tuple [.agg [.nilslice, .nilslice], .int .i64 7] := by
          intro o p ho
          rcases ho with rfl | rfl
          · exact ⟨rfl, rfl⟩
          · cases o <;> exact ⟨rfl, rfl⟩
        by_cases hAB : boundsS A = none ∨ boundsS B = none
        · obtain ⟨e1, e2⟩ := none1 _ _ hAB
          rw [e1] at hk
          rw [e2]
          have HK := Lib.hid hk
          clear hk e1 e2 hAB none1
          repeat' (first | refine goS ?_ | (apply U6; exact Z1; exact Z1; (focus (simp only [List.nil_append, List.append_nil]; first | exact k99 _ | exact k101 _ | exact H102.out _ _ | exact HK.out _ _ rfl)); simp only [pM, pN, rR, rP]) | refine go2 (fun hh => ?_) (fun hh => ?_) | fail)
          all_goals simp only [resV_def (X := dX cGP) Tryz.func107, Tryz.results107, resultsV, resultV, go_sem, *, Nat.reduceLT, Int.reduceEq, Int.reduceBEq, Int.reduceLE, Int.reduceLT, Nat.reduceAdd, Nat.reduceBEq, Nat.reduceEqDiff, reduceIte, Nat.reduceLeDiff, Nat.reduceMul, Nat.reduceSub, reduceCtorEq, frzRes, dFrz, frzCells, isRet_ret, tupleOf]
        · obtain ⟨a, hA⟩ : ∃ a, boundsS A = some a := by cases h : boundsS A with | none => exact absurd (.inl h) hAB | some a => exact ⟨a, rfl⟩
          obtain ⟨b, hB⟩ : ∃ b, boundsS B = some b := by cases h : boundsS B with | none => exact absurd (.inr h) hAB | some a => exact ⟨a, rfl⟩
          have e1 : knO (some a) (some b) = .tuple [.agg [slN (a.map spC.enc), slN (b.map spC.enc)], .bool true] := rfl
          have e2 : askV true (some a) (some b) = .tuple [.agg [slN (a.map spC.enc), slN (b.map spC.enc)], .int .i64 0] := rfl
          rw [hA, hB, e1] at hk
          rw [hA, hB, e2]
          have HK := Lib.hid hk
          have f1 := (slN_is (a.map spC.enc)).frz1
          have f2 := (slN_is (b.map spC.enc)).frz1
          have u1 := (slN_is (a.map spC.enc)).out
          have u2 := (slN_is (b.map spC.enc)).out
          have u3 := (slN_is (a.map spC.enc)).tup
          have u4 := (slN_is (b.map spC.enc)).tup
          generalize slN (a.map spC.enc) = la at *
          generalize slN (b.map spC.enc) = lb at *
          clear hk e1 e2 hAB none1 hA hB
          repeat' (first | refine goS ?_ | (apply U6; exact Z1; exact Z1; (focus (simp only [List.nil_append, List.append_nil]; first | exact k99 _ | exact k101 _ | exact H102.out _ _ | exact HK.out _ _ rfl)); simp only [pM, pN, rR, rP]) | refine go2 (fun hh => ?_) (fun hh => ?_) | fail)
          all_goals simp only [resV_def (X := dX cGP) Tryz.func107, Tryz.results107, resultsV, resultV, go_sem, *, Nat.reduceLT, Int.reduceEq, Int.reduceBEq, Int.reduceLE, Int.reduceLT, Nat.reduceAdd, Nat.reduceBEq, Nat.reduceEqDiff, reduceIte, Nat.reduceLeDiff, Nat.reduceMul, Nat.reduceSub, reduceCtorEq, frzRes, dFrz, frzCells, isRet_ret, tupleOf]
      all_goals (
        have hok : ok = false := by
          rw [HOK.out]
          first
            | (rw [q1]; rfl)
            | (rw [q1, q2]; rfl)
            | (have hlen : decide (st.length = hs.length) = false := by
                have := q3
                simp at this ⊢
                omega
               rw [q1, q2, hlen]; rfl)
            | (rw [q4]; simp)
        rw [hok]
        simp only [askV, Bool.false_eq_true, if_false]
        clear HOK hok hk
        subst q1
        repeat' (first | refine goS ?_ | (apply U6; exact Z1; exact Z1; (focus (simp only [List.nil_append, List.append_nil]; first | exact k99 _ | exact k101 _)); simp only [pM, pN, rR, rP]) | refine go2 (fun hh => ?_) (fun hh => ?_) | fail)
        all_goals simp only [resV_def (X := dX cGP) Tryz.func107, Tryz.results107, resultsV, resultV, go_sem, *, Nat.reduceLT, Int.reduceEq, Int.reduceBEq, Int.reduceLE, Int.reduceLT, Nat.reduceAdd, Nat.reduceBEq, Nat.reduceEqDiff, reduceIte, Nat.reduceLeDiff, Nat.reduceMul, Nat.reduceSub, reduceCtorEq, frzRes, dFrz, frzCells, isRet_ret, tupleOf])
    · cases h
  · cases h
end Go.AM
set_option linter.unusedSectionVars false
set_option linter.unusedVariables false
set_option linter.unusedSimpArgs false
namespace Go.AM
open Go
variable [Keep]
def SeeV {α : Type} (h : Heap) (c : Cd α) (a : AV) (l : List α) : Prop := ∃ a', viewV h a = some a' ∧ slV c a' = some l
theorem SeeV.of {α : Type} {c : Cd α} {a : AV} {l : List α} (hl : slV c a = some l) (h : Heap) : SeeV h c a l := by
  have hp := sl_pur hl
  rcases (slV_is hl).1 with ⟨rfl | rfl, _⟩ | rfl
  · exact ⟨_, rfl, hl⟩
  · exact ⟨_, rfl, hl⟩
  · exact ⟨_, by simp only [viewV, hp, if_true], hl⟩
theorem viewD_mach {h : Heap} {sa ra sa' ra' : AV} {cxl cxh cyl cyh wxl wxh wyl wyh : Int} (h1 : viewV h sa = some sa') (h2 : viewV h ra = some ra') :
    viewD h (.agg [sa, .int .i64 cxl, .int .i64 cxh, .int .i64 cyl, .int .i64 cyh, .int .i64 wxl, .int .i64 wxh, .int .i64 wyl, .int .i64 wyh, ra]) = some (.agg [sa', .int .i64 cxl, .int .i64 cxh, .int .i64 cyl, .int .i64 cyh, .int .i64 wxl, .int .i64 wxh, .int .i64 wyl, .int .i64 wyh, ra']) := by
  have e : ∀ n, viewV h (.int .i64 n) = some (.int .i64 n) := fun n => rfl
  simp only [viewD, viewVs, h1, h2, e, Option.map_some]
theorem viewD_but {h : Heap} {ha ha' : AV} {err : Int} (h1 : viewV h ha = some ha') : viewD h (.agg [ha, .int .i64 err]) = some (.agg [ha', .int .i64 err]) := by
  have e : ∀ n, viewV h (.int .i64 n) = some (.int .i64 n) := fun n => rfl
  simp only [viewD, viewVs, h1, e, Option.map_some]
end Go.AM
