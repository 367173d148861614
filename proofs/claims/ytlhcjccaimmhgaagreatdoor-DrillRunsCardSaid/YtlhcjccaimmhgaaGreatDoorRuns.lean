/-
  DrillRuns: for every machine, every proposed truth and every blank the law returns true, and its arguments read behind the call as before. No condition but the row's own: the tables of Go's library that it lists hold what the program's text lays there.
-/
import Derived.Test.YtlhcjccaimmhgaaGreatDoorFnD
import Derived.Test.YtlhcjccaimmhgaaGreatDoorFnE
import Derived.Test.YtlhcjccaimmhgaaGreatDoorShared
import Derived.Test.YtlhcjccaimmhgaaGreatDoorHeadB
import Derived.Test.YtlhcjccaimmhgaaGreatDoorCards
set_option linter.unusedSectionVars false
set_option linter.unusedVariables false
set_option linter.unusedSimpArgs false
set_option maxRecDepth 100000
namespace Go.AM
open Go Go.Proofs
variable [Keep]
attribute [local irreducible] W WO WO1 WD WQ WT thenQ blockQ endR isRet retK Cl ClR
theorem eqg48 : Tryz.prog.eqGuardType Tryz.prog.depth 48 = false := by kernel_rfl
theorem eqh48 : Tryz.prog.stoodInHeld 48 = false := by kernel_rfl
theorem eq48 (a b c d : Int) : binV Tryz.prog .eql 48 false (.agg [.int .i64 a, .int .i64 b]) (.agg [.int .i64 c, .int .i64 d]) = some (.bool (a == c && b == d)) := by
  simp only [binV, eqOp, eqV, eqg48, Bool.false_eq_true, if_false, eqDepth, eqT, Tryz.underlying48, eqh48, eqFields]
  simp [eqFields, readT, ty_lay3, readAt, Tryz.underlying3]
  cases h1 : (a == c) <;> cases h2 : (b == d) <;> simp_all
theorem slLen_mk {a : AV} {es : List AV} (h : isSl a es) : slLen a = some es.length := by rcases h with ⟨rfl | rfl, rfl⟩ | rfl <;> rfl
noncomputable def c6 : FuncId → Option (List AV → Heap → Option (AV × Heap))
  | 38 => some (pureFn sp38)
  | 39 => some (pureFn sp39)
  | 40 => some (pureFn sp40)
  | 41 => some (pureFn sp41)
  | 42 => some (pureFn sp42)
  | f => c25 cK f
attribute [local irreducible] boundsS machB
set_option maxHeartbeats 4000000 in
theorem T6 (sa ra : AV) (cx cy wx wy : Sp) (st : List Pt) (rs : List Rdg) (blank : Int) (hs : isSl sa (st.map ptC.enc)) (hr : isSl ra (rs.map rdgC.enc)) :
    ClR (dX c6) 6 [.agg [sa, .int .i64 cx.lo, .int .i64 cx.hi, .int .i64 cy.lo, .int .i64 cy.hi, .int .i64 wx.lo, .int .i64 wx.hi, .int .i64 wy.lo, .int .i64 wy.hi, ra], .int .i64 blank] emptyHp (isRet (.bool true)) := by
  have hp1 := hs.pur (enc_pur ptC st)
  have hp2 := hr.pur (enc_pur rdgC rs)
  have hout := hs.out
  have hout2 := hr.out
  have htup := hs.tup
  have htup2 := hr.tup
  have k25 : ∀ h, Cl (dX c6) 25 [] h (.ret (.bool true) h none) := fun h => K25 rfl h
  have K38 : ∀ h, Cl (dX c6) 38 [.agg [sa, .int .i64 cx.lo, .int .i64 cx.hi, .int .i64 cy.lo, .int .i64 cy.hi, .int .i64 wx.lo, .int .i64 wx.hi, .int .i64 wy.lo, .int .i64 wy.hi, ra]] h (.ret (.bool (decide ((st.length : Int) ≤ 6) && decide ((rs.length : Int) ≤ 6))) h none) := fun h => by
    have h1 := slLen_mk hs
    have h2 := slLen_mk hr
    exact Cl.intr (g := pureFn sp38) rfl (by simp [pureFn, AV.pur, AV.purL, hp1, hp2, sp38, h1, h2])
  by_cases hsl : decide ((st.length : Int) ≤ 6) && decide ((rs.length : Int) ≤ 6)
  · have hsl2 : (decide ((st.length : Int) ≤ 6) && decide ((rs.length : Int) ≤ 6)) = true := hsl
    have k38 := K38
    rw [hsl2] at k38
    simp only [Bool.and_eq_true, decide_eq_true_eq] at hsl2
    have v1 : slV ptC sa = some st := slV_mk hs (by unfold maxL; omega)
    have v2 : slV rdgC ra = some rs := slV_mk hr (by unfold maxL; omega)
    have K39' : ∀ h, Cl (dX c6) 39 [.agg [sa, .int .i64 cx.lo, .int .i64 cx.hi, .int .i64 cy.lo, .int .i64 cy.hi, .int .i64 wx.lo, .int .i64 wx.hi, .int .i64 wy.lo, .int .i64 wy.hi, ra], .int .i64 blank] h (.ret (knownV (machB st cx cy wx wy rs) (boundsS (ax0 cx wx rs [])) (boundsS (ax1 cy wy rs [])) blank) h none) := fun h =>
      Cl.intr (g := pureFn sp39) rfl (by simp [pureFn, AV.pur, AV.purL, hp1, hp2, sp39, v1, v2])
    have K40' : ∀ h, Cl (dX c6) 40 [.agg [sa, .int .i64 cx.lo, .int .i64 cx.hi, .int .i64 cy.lo, .int .i64 cy.hi, .int .i64 wx.lo, .int .i64 wx.hi, .int .i64 wy.lo, .int .i64 wy.hi, ra]] h (.ret (.int .i64 (ableI (machB st cx cy wx wy rs) ((boundsS (ax0 cx wx rs [])).isSome && (boundsS (ax1 cy wy rs [])).isSome))) h none) := fun h =>
      Cl.intr (g := pureFn sp40) rfl (by simp [pureFn, AV.pur, AV.purL, hp1, hp2, sp40, v1, v2])
    have k41 : ∀ h, Cl (dX c6) 41 [.int .i64 blank, .int .i64 0] h (.ret (.bool (inB blank 0 12)) h none) := fun h => Cl.intr (g := pureFn sp41) rfl rfl
    have K42' : ∀ a b, boundsS (ax0 cx wx rs []) = some a → boundsS (ax1 cy wy rs []) = some b → machB st cx cy wx wy rs = true → inB blank 0 12 = true → ∀ h, Cl (dX c6) 42 [.agg [sa, .int .i64 cx.lo, .int .i64 cx.hi, .int .i64 cy.lo, .int .i64 cy.hi, .int .i64 wx.lo, .int .i64 wx.hi, .int .i64 wy.lo, .int .i64 wy.hi, ra], .int .i64 blank] h
        (.ret (.tuple [spC.enc (a.getD blank.toNat ⟨0, 0⟩), spC.enc (b.getD blank.toNat ⟨0, 0⟩)]) h none) := fun a b hA hB hok hin h =>
      Cl.intr (g := pureFn sp42) rfl (by simp [pureFn, AV.pur, AV.purL, hp1, hp2, sp42, v1, v2, hA, hB, hok, hin])
    have h48 := eq48
    have n2 : ((2 : Int) != 0) = true := rfl
    have n7 : ((7 : Int) != 0) = true := rfl
    have n0 : ((0 : Int) != 0) = false := rfl
    have bt : (true && true) = true := rfl
    clear hs hr hp1 hp2 v1 v2 hsl hsl2 K38
    generalize machB st cx cy wx wy rs = ok at *
    generalize boundsS (ax0 cx wx rs []) = A at *
    generalize boundsS (ax1 cy wy rs []) = B at *
    refine ClR.walk (c := _) rfl Tryz.func6 rfl (by kernel_rfl) rfl isRet_fail ?_
    simp only [entryEnv, Nat.reduceAdd]
    cases ok with
    | false =>
      have k39 := K39'
      have k40 := K40'
      simp only [knownV, spanO, ableI, Bool.false_and, Bool.false_eq_true, if_false] at k39 k40
      clear K39' K40' K42'
      repeat' (first | (refine ⟨⟨trivial, trivial⟩, ?_⟩) | (refine ⟨⟨rfl, rfl⟩, ?_⟩) | (refine WQ.cons rfl rfl ?_) | (refine WT.cons rfl rfl ?_) | (refine WQ.nil ?_) | (refine WT.nil ?_; simp only [tN, bN, eN, true_and]) | (apply WQ.alloc; exact rfl; exact rfl; exact payR; simp only [pM, pN]) | refine W.seq ?_ | refine W.region ?_ | refine W.block ?_ | refine W.scope ?_ | refine WO.cons ?_ | (refine WO.nil ?_; simp only [tN, bN, eN, true_and]) | (apply WO1.rd; exact payR; exact rfl; simp only [pM, pN, rR, rP]) | (refine WO1.gyes (b := true) rfl rfl ?_ rfl ?_; exact payD) | (refine WO1.gno (b := true) rfl rfl ?_ rfl ?_; exact payD; simp only [pM, pN, rR, rP]) | (refine WO1.gyes (b := false) rfl rfl ?_ rfl ?_; exact payD) | (refine WO1.gno (b := false) rfl rfl ?_ rfl ?_; exact payD; simp only [pM, pN, rR, rP]) | (apply WO1.gsplit; exact rfl; exact rfl; exact payR; refine ⟨fun hh => ?_, fun hh => ?_⟩ <;> try simp only [Bool.not_true, Bool.not_false, pM, pN] at hh ⊢) | (apply WO1.call; exact payR; exact payR; (focus (simp only [List.nil_append, List.append_nil]; first | exact k25 _ | exact k38 _ | exact k39 _ | exact k40 _ | exact k41 _)); simp only [pM, pN, rR, rP]) | (apply WO1.ef; exact rfl; exact payE; simp only [pM, pN, rR, rP]) | (simp only [tP, bP, eP, true_and]) | (refine W.ret ?_; simp only [tR, bR, eR, true_and]) | (refine W.skip ?_; simp only [tN, bN, eN, true_and]) | (refine W.exit ?_; simp only [tX, bS, bO, Nat.reduceBEq, tN, bN]) | (refine W.condT ?_ ?_; exact payD) | (refine W.condF ?_ ?_; exact payD) | (apply W.condB; exact payR; refine ⟨fun hh => ?_, fun hh => ?_⟩))
      all_goals simp only [resV_def (X := dX c6) Tryz.func6, Tryz.results6, resultsV, resultV, go_sem, *, Nat.reduceLT, Int.reduceEq, Int.reduceBEq, Int.reduceLE, Int.reduceLT, Nat.reduceAdd, Nat.reduceBEq, Nat.reduceEqDiff, reduceIte, Nat.reduceLeDiff, Nat.reduceMul, Nat.reduceSub, reduceCtorEq, frzRes, dFrz, frzCells, isRet_ret, tupleOf]
    | true =>
      cases hin : inB blank 0 12 with
      | false =>
        have k39 := K39'
        have k40 := K40'
        simp only [knownV, spanO, hin, Bool.and_false, Bool.false_eq_true, if_false] at k39
        generalize ableI true (A.isSome && B.isSome) = ab at k40
        clear K39' K40' K42'
        repeat' (first | (refine ⟨⟨trivial, trivial⟩, ?_⟩) | (refine ⟨⟨rfl, rfl⟩, ?_⟩) | (refine WQ.cons rfl rfl ?_) | (refine WT.cons rfl rfl ?_) | (refine WQ.nil ?_) | (refine WT.nil ?_; simp only [tN, bN, eN, true_and]) | (apply WQ.alloc; exact rfl; exact rfl; exact payR; simp only [pM, pN]) | refine W.seq ?_ | refine W.region ?_ | refine W.block ?_ | refine W.scope ?_ | refine WO.cons ?_ | (refine WO.nil ?_; simp only [tN, bN, eN, true_and]) | (apply WO1.rd; exact payR; exact rfl; simp only [pM, pN, rR, rP]) | (refine WO1.gyes (b := true) rfl rfl ?_ rfl ?_; exact payD) | (refine WO1.gno (b := true) rfl rfl ?_ rfl ?_; exact payD; simp only [pM, pN, rR, rP]) | (refine WO1.gyes (b := false) rfl rfl ?_ rfl ?_; exact payD) | (refine WO1.gno (b := false) rfl rfl ?_ rfl ?_; exact payD; simp only [pM, pN, rR, rP]) | (apply WO1.gsplit; exact rfl; exact rfl; exact payR; refine ⟨fun hh => ?_, fun hh => ?_⟩ <;> try simp only [Bool.not_true, Bool.not_false, pM, pN] at hh ⊢) | (apply WO1.call; exact payR; exact payR; (focus (simp only [List.nil_append, List.append_nil]; first | exact k25 _ | exact k38 _ | exact k39 _ | exact k40 _ | exact k41 _)); simp only [pM, pN, rR, rP]) | (apply WO1.ef; exact rfl; exact payE; simp only [pM, pN, rR, rP]) | (simp only [tP, bP, eP, true_and]) | (refine W.ret ?_; simp only [tR, bR, eR, true_and]) | (refine W.skip ?_; simp only [tN, bN, eN, true_and]) | (refine W.exit ?_; simp only [tX, bS, bO, Nat.reduceBEq, tN, bN]) | (refine W.condT ?_ ?_; exact payD) | (refine W.condF ?_ ?_; exact payD) | (apply W.condB; exact payR; refine ⟨fun hh => ?_, fun hh => ?_⟩))
        all_goals simp only [resV_def (X := dX c6) Tryz.func6, Tryz.results6, resultsV, resultV, go_sem, *, Nat.reduceLT, Int.reduceEq, Int.reduceBEq, Int.reduceLE, Int.reduceLT, Nat.reduceAdd, Nat.reduceBEq, Nat.reduceEqDiff, reduceIte, Nat.reduceLeDiff, Nat.reduceMul, Nat.reduceSub, reduceCtorEq, frzRes, dFrz, frzCells, isRet_ret, tupleOf]
      | true =>
        by_cases hAB : A.isSome && B.isSome
        · obtain ⟨a, rfl⟩ : ∃ a, A = some a := by cases A with | none => simp at hAB | some a => exact ⟨a, rfl⟩
          obtain ⟨b, rfl⟩ : ∃ b, B = some b := by cases B with | none => simp at hAB | some a => exact ⟨a, rfl⟩
          have k39 := K39'
          have k40 := K40'
          have k42 := K42' a b rfl rfl rfl hin
          simp only [knownV, hin, ableI, Bool.and_self, if_true, Option.isSome_some, spC] at k39 k40 k42
          generalize a.getD blank.toNat ⟨0, 0⟩ = p at *
          generalize b.getD blank.toNat ⟨0, 0⟩ = q at *
          have b1 : (p.lo == p.lo) = true := beq_self_eq_true _
          have b2 : (p.hi == p.hi) = true := beq_self_eq_true _
          have b3 : (q.lo == q.lo) = true := beq_self_eq_true _
          have b4 : (q.hi == q.hi) = true := beq_self_eq_true _
          clear K39' K40' K42' hAB
          repeat' (first | (refine ⟨⟨trivial, trivial⟩, ?_⟩) | (refine ⟨⟨rfl, rfl⟩, ?_⟩) | (refine WQ.cons rfl rfl ?_) | (refine WT.cons rfl rfl ?_) | (refine WQ.nil ?_) | (refine WT.nil ?_; simp only [tN, bN, eN, true_and]) | (apply WQ.alloc; exact rfl; exact rfl; exact payR; simp only [pM, pN]) | refine W.seq ?_ | refine W.region ?_ | refine W.block ?_ | refine W.scope ?_ | refine WO.cons ?_ | (refine WO.nil ?_; simp only [tN, bN, eN, true_and]) | (apply WO1.rd; exact payR; exact rfl; simp only [pM, pN, rR, rP]) | (refine WO1.gyes (b := true) rfl rfl ?_ rfl ?_; exact payD) | (refine WO1.gno (b := true) rfl rfl ?_ rfl ?_; exact payD; simp only [pM, pN, rR, rP]) | (refine WO1.gyes (b := false) rfl rfl ?_ rfl ?_; exact payD) | (refine WO1.gno (b := false) rfl rfl ?_ rfl ?_; exact payD; simp only [pM, pN, rR, rP]) | (apply WO1.gsplit; exact rfl; exact rfl; exact payR; refine ⟨fun hh => ?_, fun hh => ?_⟩ <;> try simp only [Bool.not_true, Bool.not_false, pM, pN] at hh ⊢) | (apply WO1.call; exact payR; exact payR; (focus (simp only [List.nil_append, List.append_nil]; first | exact k25 _ | exact k38 _ | exact k39 _ | exact k40 _ | exact k41 _ | exact k42 _)); simp only [pM, pN, rR, rP]) | (apply WO1.ef; exact rfl; exact payE; simp only [pM, pN, rR, rP]) | (simp only [tP, bP, eP, true_and]) | (refine W.ret ?_; simp only [tR, bR, eR, true_and]) | (refine W.skip ?_; simp only [tN, bN, eN, true_and]) | (refine W.exit ?_; simp only [tX, bS, bO, Nat.reduceBEq, tN, bN]) | (refine W.condT ?_ ?_; exact payD) | (refine W.condF ?_ ?_; exact payD) | (apply W.condB; exact payR; refine ⟨fun hh => ?_, fun hh => ?_⟩))
          all_goals simp only [resV_def (X := dX c6) Tryz.func6, Tryz.results6, resultsV, resultV, go_sem, *, Nat.reduceLT, Int.reduceEq, Int.reduceBEq, Int.reduceLE, Int.reduceLT, Nat.reduceAdd, Nat.reduceBEq, Nat.reduceEqDiff, reduceIte, Nat.reduceLeDiff, Nat.reduceMul, Nat.reduceSub, reduceCtorEq, frzRes, dFrz, frzCells, isRet_ret, tupleOf]
        · have hAB : (A.isSome && B.isSome) = false := by simpa using hAB
          have k39 := K39'
          have k40 := K40'
          have hk : knownV true A B blank = .tuple [.agg [.int .i64 0, .int .i64 0], .agg [.int .i64 0, .int .i64 0], .int .i64 7] := by
            unfold knownV
            rw [hin]
            simp only [Bool.and_self, if_true]
            cases A <;> cases B <;> first | rfl | simp at hAB
          rw [hk] at k39
          simp only [ableI, hAB, Bool.false_eq_true, if_false, if_true] at k40
          clear K39' K40' K42' hAB hk
          repeat' (first | (refine ⟨⟨trivial, trivial⟩, ?_⟩) | (refine ⟨⟨rfl, rfl⟩, ?_⟩) | (refine WQ.cons rfl rfl ?_) | (refine WT.cons rfl rfl ?_) | (refine WQ.nil ?_) | (refine WT.nil ?_; simp only [tN, bN, eN, true_and]) | (apply WQ.alloc; exact rfl; exact rfl; exact payR; simp only [pM, pN]) | refine W.seq ?_ | refine W.region ?_ | refine W.block ?_ | refine W.scope ?_ | refine WO.cons ?_ | (refine WO.nil ?_; simp only [tN, bN, eN, true_and]) | (apply WO1.rd; exact payR; exact rfl; simp only [pM, pN, rR, rP]) | (refine WO1.gyes (b := true) rfl rfl ?_ rfl ?_; exact payD) | (refine WO1.gno (b := true) rfl rfl ?_ rfl ?_; exact payD; simp only [pM, pN, rR, rP]) | (refine WO1.gyes (b := false) rfl rfl ?_ rfl ?_; exact payD) | (refine WO1.gno (b := false) rfl rfl ?_ rfl ?_; exact payD; simp only [pM, pN, rR, rP]) | (apply WO1.gsplit; exact rfl; exact rfl; exact payR; refine ⟨fun hh => ?_, fun hh => ?_⟩ <;> try simp only [Bool.not_true, Bool.not_false, pM, pN] at hh ⊢) | (apply WO1.call; exact payR; exact payR; (focus (simp only [List.nil_append, List.append_nil]; first | exact k25 _ | exact k38 _ | exact k39 _ | exact k40 _ | exact k41 _)); simp only [pM, pN, rR, rP]) | (apply WO1.ef; exact rfl; exact payE; simp only [pM, pN, rR, rP]) | (simp only [tP, bP, eP, true_and]) | (refine W.ret ?_; simp only [tR, bR, eR, true_and]) | (refine W.skip ?_; simp only [tN, bN, eN, true_and]) | (refine W.exit ?_; simp only [tX, bS, bO, Nat.reduceBEq, tN, bN]) | (refine W.condT ?_ ?_; exact payD) | (refine W.condF ?_ ?_; exact payD) | (apply W.condB; exact payR; refine ⟨fun hh => ?_, fun hh => ?_⟩))
          all_goals simp only [resV_def (X := dX c6) Tryz.func6, Tryz.results6, resultsV, resultV, go_sem, *, Nat.reduceLT, Int.reduceEq, Int.reduceBEq, Int.reduceLE, Int.reduceLT, Nat.reduceAdd, Nat.reduceBEq, Nat.reduceEqDiff, reduceIte, Nat.reduceLeDiff, Nat.reduceMul, Nat.reduceSub, reduceCtorEq, frzRes, dFrz, frzCells, isRet_ret, tupleOf]
  · have hsl2 : (decide ((st.length : Int) ≤ 6) && decide ((rs.length : Int) ≤ 6)) = false := by simpa using hsl
    have k38 := K38
    rw [hsl2] at k38
    clear hs hr hp1 hp2 hsl hsl2 K38
    refine ClR.walk (c := _) rfl Tryz.func6 rfl (by kernel_rfl) rfl isRet_fail ?_
    simp only [entryEnv, Nat.reduceAdd]
    repeat' (first | (refine ⟨⟨trivial, trivial⟩, ?_⟩) | (refine ⟨⟨rfl, rfl⟩, ?_⟩) | (refine WQ.cons rfl rfl ?_) | (refine WT.cons rfl rfl ?_) | (refine WQ.nil ?_) | (refine WT.nil ?_; simp only [tN, bN, eN, true_and]) | (apply WQ.alloc; exact rfl; exact rfl; exact payR; simp only [pM, pN]) | refine W.seq ?_ | refine W.region ?_ | refine W.block ?_ | refine W.scope ?_ | refine WO.cons ?_ | (refine WO.nil ?_; simp only [tN, bN, eN, true_and]) | (apply WO1.rd; exact payR; exact rfl; simp only [pM, pN, rR, rP]) | (refine WO1.gyes (b := true) rfl rfl ?_ rfl ?_; exact payD) | (refine WO1.gno (b := true) rfl rfl ?_ rfl ?_; exact payD; simp only [pM, pN, rR, rP]) | (refine WO1.gyes (b := false) rfl rfl ?_ rfl ?_; exact payD) | (refine WO1.gno (b := false) rfl rfl ?_ rfl ?_; exact payD; simp only [pM, pN, rR, rP]) | (apply WO1.gsplit; exact rfl; exact rfl; exact payR; refine ⟨fun hh => ?_, fun hh => ?_⟩ <;> try simp only [Bool.not_true, Bool.not_false, pM, pN] at hh ⊢) | (apply WO1.call; exact payR; exact payR; (focus (simp only [List.nil_append, List.append_nil]; first | exact k25 _ | exact k38 _)); simp only [pM, pN, rR, rP]) | (apply WO1.ef; exact rfl; exact payE; simp only [pM, pN, rR, rP]) | (simp only [tP, bP, eP, true_and]) | (refine W.ret ?_; simp only [tR, bR, eR, true_and]) | (refine W.skip ?_; simp only [tN, bN, eN, true_and]) | (refine W.exit ?_; simp only [tX, bS, bO, Nat.reduceBEq, tN, bN]) | (refine W.condT ?_ ?_; exact payD) | (refine W.condF ?_ ?_; exact payD) | (apply W.condB; exact payR; refine ⟨fun hh => ?_, fun hh => ?_⟩))
    all_goals simp only [resV_def (X := dX c6) Tryz.func6, Tryz.results6, resultsV, resultV, go_sem, *, Nat.reduceLT, Int.reduceEq, Int.reduceBEq, Int.reduceLE, Int.reduceLT, Nat.reduceAdd, Nat.reduceBEq, Nat.reduceEqDiff, reduceIte, Nat.reduceLeDiff, Nat.reduceMul, Nat.reduceSub, reduceCtorEq, frzRes, dFrz, frzCells, isRet_ret, tupleOf]
end Go.AM
set_option maxRecDepth 100000
namespace Go.AM
open Go Go.Proofs
variable [Keep]
attribute [local irreducible] W WO WO1 WD WQ WT thenQ blockQ endR isRet retK Cl ClR
attribute [local irreducible] boundsS machB fitsM fitsR truthB
theorem neq4 (a b : Bool) : binV Tryz.prog .neq 4 false (.bool a) (.bool b) = some (.bool (!(a == b))) := by
  simp only [binV, eqOp, eqV, eqDepth, eqT, Tryz.underlying4]
noncomputable def c19 : FuncId → Option (List AV → Heap → Option (AV × Heap))
  | 38 => some (pureFn sp38)
  | 40 => some (pureFn sp40)
  | 41 => some (pureFn sp41)
  | 70 => some (pureFn sp70)
  | 71 => some (flatFn sp71)
  | 72 => some (pureFn sp72)
  | 73 => some (pureFn sp73)
  | 74 => some (pureFn sp74)
  | 77 => some (pureFn sp77)
  | 78 => some (pureFn sp78)
  | 79 => some (pureFn sp79)
  | f => c25 cK f
set_option maxHeartbeats 8000000 in
theorem T19 (sa ra xa ya : AV) (cx cy wx wy : Sp) (st : List Pt) (rs : List Rdg) (xs ys : List Int) (blank : Int) (hs : isSl sa (st.map ptC.enc)) (hr : isSl ra (rs.map rdgC.enc)) (hl : isSl xa (xs.map intC.enc)) (hl2 : isSl ya (ys.map intC.enc)) :
    ClR (dX c19) 19 [.agg [sa, .int .i64 cx.lo, .int .i64 cx.hi, .int .i64 cy.lo, .int .i64 cy.hi, .int .i64 wx.lo, .int .i64 wx.hi, .int .i64 wy.lo, .int .i64 wy.hi, ra], .agg [xa, ya], .int .i64 blank] emptyHp (isRet (.bool true)) := by
  have hp1 := hs.pur (enc_pur ptC st)
  have hp2 := hr.pur (enc_pur rdgC rs)
  have hp3 := hl.pur (enc_pur intC xs)
  have hp4 := hl2.pur (enc_pur intC ys)
  have o1 := hs.out
  have o2 := hr.out
  have o3 := hl.out
  have o4 := hl2.out
  have t1 := hs.tup
  have t2 := hr.tup
  have k25 : ∀ h, Cl (dX c19) 25 [] h (.ret (.bool true) h none) := fun h => K25 rfl h
  have K38 : ∀ h, Cl (dX c19) 38 [.agg [sa, .int .i64 cx.lo, .int .i64 cx.hi, .int .i64 cy.lo, .int .i64 cy.hi, .int .i64 wx.lo, .int .i64 wx.hi, .int .i64 wy.lo, .int .i64 wy.hi, ra]] h (.ret (.bool (decide ((st.length : Int) ≤ 6) && decide ((rs.length : Int) ≤ 6))) h none) := fun h => by
    have h1 := slLen_mk hs
    have h2 := slLen_mk hr
    exact Cl.intr (g := pureFn sp38) rfl (by simp [pureFn, AV.pur, AV.purL, hp1, hp2, sp38, h1, h2])
  have K70 : ∀ h, Cl (dX c19) 70 [.agg [xa, ya]] h (.ret (.bool (decide ((xs.length : Int) ≤ 15) && decide ((ys.length : Int) ≤ 15))) h none) := fun h => by
    have h1 := slLen_mk hl
    have h2 := slLen_mk hl2
    exact Cl.intr (g := pureFn sp70) rfl (by simp [pureFn, AV.pur, AV.purL, hp3, hp4, sp70, h1, h2])
  have n2 : ((2 : Int) != 0) = true := rfl
  have n0 : ((0 : Int) != 0) = false := rfl
  have e22 : ((2 : Int) == 2) = true := rfl
  have e00 : (((0 : Nat) : Int) == 0) = true := rfl
  have bt : (true && true) = true := rfl
  have hn4 := neq4
  have hff : (!(false == false)) = false := rfl
  have htt : (!(true == true)) = false := rfl
  by_cases hsl : decide ((st.length : Int) ≤ 6) && decide ((rs.length : Int) ≤ 6)
  · have hsl2 : (decide ((st.length : Int) ≤ 6) && decide ((rs.length : Int) ≤ 6)) = true := hsl
    have k38 := K38
    rw [hsl2] at k38
    by_cases hbr : decide ((xs.length : Int) ≤ 15) && decide ((ys.length : Int) ≤ 15)
    · have hbr2 : (decide ((xs.length : Int) ≤ 15) && decide ((ys.length : Int) ≤ 15)) = true := hbr
      have k70 := K70
      rw [hbr2] at k70
      simp only [Bool.and_eq_true, decide_eq_true_eq] at hsl2 hbr2
      have v1 : slV ptC sa = some st := slV_mk hs (by unfold maxL; omega)
      have v2 : slV rdgC ra = some rs := slV_mk hr (by unfold maxL; omega)
      have v3 : slV intC xa = some xs := slV_mk hl (by unfold maxL; omega)
      have v4 : slV intC ya = some ys := slV_mk hl2 (by unfold maxL; omega)
      have hst : st.length ≤ 6 := by omega
      have k77 : ∀ h, Cl (dX c19) 77 [.agg [sa, .int .i64 cx.lo, .int .i64 cx.hi, .int .i64 cy.lo, .int .i64 cy.hi, .int .i64 wx.lo, .int .i64 wx.hi, .int .i64 wy.lo, .int .i64 wy.hi, ra]] h (.ret (.int .i64 (ableI (machB st cx cy wx wy rs) ((boundsS (ax0 cx wx rs [])).isSome && (boundsS (ax1 cy wy rs [])).isSome))) h none) := fun h =>
        Cl.intr (g := pureFn sp77) rfl (by simp [pureFn, AV.pur, AV.purL, hp1, hp2, sp77, v1, v2])
      have k40 : ∀ h, Cl (dX c19) 40 [.agg [sa, .int .i64 cx.lo, .int .i64 cx.hi, .int .i64 cy.lo, .int .i64 cy.hi, .int .i64 wx.lo, .int .i64 wx.hi, .int .i64 wy.lo, .int .i64 wy.hi, ra]] h (.ret (.int .i64 (ableI (machB st cx cy wx wy rs) ((boundsS (ax0 cx wx rs [])).isSome && (boundsS (ax1 cy wy rs [])).isSome))) h none) := fun h =>
        Cl.intr (g := pureFn sp40) rfl (by simp [pureFn, AV.pur, AV.purL, hp1, hp2, sp40, v1, v2])
      have k71 : ∀ h, Cl (dX c19) 71 [.agg [sa, .int .i64 cx.lo, .int .i64 cx.hi, .int .i64 cy.lo, .int .i64 cy.hi, .int .i64 wx.lo, .int .i64 wx.hi, .int .i64 wy.lo, .int .i64 wy.hi, ra]] h (.ret (.bool (machB st cx cy wx wy rs)) h none) := fun h => by
        have := K71 (X := dX c19) rfl sa ra st rs cx cy wx wy v1 v2 h
        rw [machR_B] at this
        exact this
      have k72 : ∀ h, Cl (dX c19) 72 [.agg [xa, ya]] h (.ret (.bool (truthB xs ys)) h none) := fun h => K72 (X := dX c19) rfl xa ya xs ys v3 v4 h
      have k41 : ∀ h, Cl (dX c19) 41 [.int .i64 blank, .int .i64 0] h (.ret (.bool (inB blank 0 12)) h none) := fun h => Cl.intr (g := pureFn sp41) rfl rfl
      have K73' : ∀ h, Cl (dX c19) 73 [.agg [sa, .int .i64 cx.lo, .int .i64 cx.hi, .int .i64 cy.lo, .int .i64 cy.hi, .int .i64 wx.lo, .int .i64 wx.hi, .int .i64 wy.lo, .int .i64 wy.hi, ra], .agg [xa, ya]] h (.ret (fitV (machB st cx cy wx wy rs && truthB xs ys) (fitsM cx cy wx wy rs xs ys)) h none) := fun h =>
        Cl.intr (g := pureFn sp73) rfl (by simp [pureFn, AV.pur, AV.purL, hp1, hp2, hp3, hp4, sp73, v1, v2, v3, v4])
      have K74' : ∀ h, Cl (dX c19) 74 [.agg [sa, .int .i64 cx.lo, .int .i64 cx.hi, .int .i64 cy.lo, .int .i64 cy.hi, .int .i64 wx.lo, .int .i64 wx.hi, .int .i64 wy.lo, .int .i64 wy.hi, ra], .agg [xa, ya], .int .i64 blank] h (.ret (holeV (machB st cx cy wx wy rs && truthB xs ys && fitsM cx cy wx wy rs xs ys && inB blank 0 12) (movedL st (xs.getD blank.toNat 0) (ys.getD blank.toNat 0))) h none) := fun h =>
        Cl.intr (g := pureFn sp74) rfl (by simp [pureFn, AV.pur, AV.purL, hp1, hp2, hp3, hp4, sp74, v1, v2, v3, v4])
      have K78' : machB st cx cy wx wy rs = true → truthB xs ys = true → ∀ h, Cl (dX c19) 78 [.agg [sa, .int .i64 cx.lo, .int .i64 cx.hi, .int .i64 cy.lo, .int .i64 cy.hi, .int .i64 wx.lo, .int .i64 wx.hi, .int .i64 wy.lo, .int .i64 wy.hi, ra], .agg [xa, ya]] h (.ret (.bool (fitsM cx cy wx wy rs xs ys)) h none) := fun h1 h2 h => by
        rw [← fits_same h1 h2]
        exact Cl.intr (g := pureFn sp78) rfl (by simp [pureFn, AV.pur, AV.purL, hp1, hp2, hp3, hp4, sp78, v1, v2, v3, v4, mach_blk h1, (truth_of h2).1, (truth_of h2).2.1])
      have hlen : truthB xs ys = true → xs.length = 13 ∧ ys.length = 13 := fun h => ⟨(truth_of h).1, (truth_of h).2.1⟩
      have V1 := Lib.hid v1
      have V3 := Lib.hid v3
      have V4 := Lib.hid v4
      clear hs hr hl hl2 hp1 hp2 hp3 hp4 v1 v2 v3 v4 hsl hsl2 hbr hbr2 K38 K70
      generalize machB st cx cy wx wy rs = ok at *
      generalize truthB xs ys = tr at *
      generalize fitsM cx cy wx wy rs xs ys = fb at *
      generalize ableI ok ((boundsS (ax0 cx wx rs [])).isSome && (boundsS (ax1 cy wy rs [])).isSome) = ab at *
      have nab : (ab != ab) = false := by simp
      refine ClR.walk (c := _) rfl Tryz.func19 rfl (by kernel_rfl) rfl isRet_fail ?_
      simp only [entryEnv, Nat.reduceAdd]
      cases ok with
      | false =>
        have k73 := K73'
        have k74 := K74'
        simp only [fitV, holeV, Bool.false_and, Bool.false_eq_true, if_false] at k73 k74
        clear K73' K74' K78' hlen
        repeat' (first | (apply W.drawQ (id := 3) (l1 := [0, 1, 2, 3, 4]) (l2 := []); kernel_rfl; kernel_rfl; kernel_rfl; exact payP) | (apply W.drawQ (id := 14) (l1 := [0, 1, 2, 3, 4, 5, 6, 7, 8, 9, 10, 11, 12, 13, 14, 15, 16, 17, 18, 19, 20, 21, 22]) (l2 := []); kernel_rfl; kernel_rfl; kernel_rfl; exact payP) | (refine ⟨⟨trivial, trivial⟩, ?_⟩) | (refine ⟨⟨rfl, rfl⟩, ?_⟩) | (refine WQ.cons rfl rfl ?_) | (refine WT.cons rfl rfl ?_) | (refine WQ.nil ?_) | (refine WT.nil ?_; simp only [tN, bN, eN, true_and]) | (apply WQ.alloc; exact rfl; exact rfl; exact payR; simp only [pM, pN]) | refine W.seq ?_ | refine W.region ?_ | refine W.block ?_ | refine W.scope ?_ | refine WO.cons ?_ | (refine WO.nil ?_; simp only [tN, bN, eN, true_and]) | (apply WO1.rd; exact payR; exact rfl; simp only [pM, pN, rR, rP]) | (refine WO1.gyes (b := true) rfl rfl ?_ rfl ?_; exact payD) | (refine WO1.gno (b := true) rfl rfl ?_ rfl ?_; exact payD; simp only [pM, pN, rR, rP]) | (refine WO1.gyes (b := false) rfl rfl ?_ rfl ?_; exact payD) | (refine WO1.gno (b := false) rfl rfl ?_ rfl ?_; exact payD; simp only [pM, pN, rR, rP]) | (apply WO1.gsplit; exact rfl; exact rfl; exact payR; refine ⟨fun hh => ?_, fun hh => ?_⟩ <;> try simp only [Bool.not_true, Bool.not_false, pM, pN] at hh ⊢) | (apply WO1.call; exact payR; exact payR; (focus (simp only [List.nil_append, List.append_nil]; first | exact k25 _ | exact k38 _ | exact k70 _ | exact k77 _ | exact k40 _ | exact k73 _ | exact k74 _ | exact k71 _ | exact k72 _)); simp only [pM, pN, rR, rP]) | (apply WO1.ef; exact rfl; exact payE; simp only [pM, pN, rR, rP]) | (simp only [tP, bP, eP, true_and]) | (refine W.ret ?_; simp only [tR, bR, eR, true_and]) | (refine W.skip ?_; simp only [tN, bN, eN, true_and]) | (refine W.exit ?_; simp only [tX, bS, bO, Nat.reduceBEq, tN, bN]) | (refine W.condT ?_ ?_; exact payD) | (refine W.condF ?_ ?_; exact payD) | (apply W.condB; exact payR; refine ⟨fun hh => ?_, fun hh => ?_⟩))
        all_goals simp only [resV_def (X := dX c19) Tryz.func19, Tryz.results19, resultsV, resultV, go_sem, *, Nat.reduceLT, Int.reduceEq, Int.reduceBEq, Int.reduceLE, Int.reduceLT, Nat.reduceAdd, Nat.reduceBEq, Nat.reduceEqDiff, reduceIte, Nat.reduceLeDiff, Nat.reduceMul, Nat.reduceSub, reduceCtorEq, frzRes, dFrz, frzCells, isRet_ret, tupleOf]
      | true =>
        cases tr with
        | false =>
          have k73 := K73'
          have k74 := K74'
          simp only [fitV, holeV, Bool.false_and, Bool.and_false, Bool.false_eq_true, if_false] at k73 k74
          clear K73' K74' K78' hlen
          repeat' (first | (apply W.drawQ (id := 3) (l1 := [0, 1, 2, 3, 4]) (l2 := []); kernel_rfl; kernel_rfl; kernel_rfl; exact payP) | (apply W.drawQ (id := 14) (l1 := [0, 1, 2, 3, 4, 5, 6, 7, 8, 9, 10, 11, 12, 13, 14, 15, 16, 17, 18, 19, 20, 21, 22]) (l2 := []); kernel_rfl; kernel_rfl; kernel_rfl; exact payP) | (refine ⟨⟨trivial, trivial⟩, ?_⟩) | (refine ⟨⟨rfl, rfl⟩, ?_⟩) | (refine WQ.cons rfl rfl ?_) | (refine WT.cons rfl rfl ?_) | (refine WQ.nil ?_) | (refine WT.nil ?_; simp only [tN, bN, eN, true_and]) | (apply WQ.alloc; exact rfl; exact rfl; exact payR; simp only [pM, pN]) | refine W.seq ?_ | refine W.region ?_ | refine W.block ?_ | refine W.scope ?_ | refine WO.cons ?_ | (refine WO.nil ?_; simp only [tN, bN, eN, true_and]) | (apply WO1.rd; exact payR; exact rfl; simp only [pM, pN, rR, rP]) | (refine WO1.gyes (b := true) rfl rfl ?_ rfl ?_; exact payD) | (refine WO1.gno (b := true) rfl rfl ?_ rfl ?_; exact payD; simp only [pM, pN, rR, rP]) | (refine WO1.gyes (b := false) rfl rfl ?_ rfl ?_; exact payD) | (refine WO1.gno (b := false) rfl rfl ?_ rfl ?_; exact payD; simp only [pM, pN, rR, rP]) | (apply WO1.gsplit; exact rfl; exact rfl; exact payR; refine ⟨fun hh => ?_, fun hh => ?_⟩ <;> try simp only [Bool.not_true, Bool.not_false, pM, pN] at hh ⊢) | (apply WO1.call; exact payR; exact payR; (focus (simp only [List.nil_append, List.append_nil]; first | exact k25 _ | exact k38 _ | exact k70 _ | exact k77 _ | exact k40 _ | exact k73 _ | exact k74 _ | exact k71 _ | exact k72 _)); simp only [pM, pN, rR, rP]) | (apply WO1.ef; exact rfl; exact payE; simp only [pM, pN, rR, rP]) | (simp only [tP, bP, eP, true_and]) | (refine W.ret ?_; simp only [tR, bR, eR, true_and]) | (refine W.skip ?_; simp only [tN, bN, eN, true_and]) | (refine W.exit ?_; simp only [tX, bS, bO, Nat.reduceBEq, tN, bN]) | (refine W.condT ?_ ?_; exact payD) | (refine W.condF ?_ ?_; exact payD) | (apply W.condB; exact payR; refine ⟨fun hh => ?_, fun hh => ?_⟩))
          all_goals simp only [resV_def (X := dX c19) Tryz.func19, Tryz.results19, resultsV, resultV, go_sem, *, Nat.reduceLT, Int.reduceEq, Int.reduceBEq, Int.reduceLE, Int.reduceLT, Nat.reduceAdd, Nat.reduceBEq, Nat.reduceEqDiff, reduceIte, Nat.reduceLeDiff, Nat.reduceMul, Nat.reduceSub, reduceCtorEq, frzRes, dFrz, frzCells, isRet_ret, tupleOf]
        | true =>
          have k73 := K73'
          have k78 := K78' rfl rfl
          have hlen := hlen rfl
          simp only [fitV, Bool.and_self, if_true] at k73
          cases fb with
          | false =>
            have k74 := K74'
            simp only [holeV, Bool.false_and, Bool.and_false, Bool.false_eq_true, if_false] at k74
            have nff : (false != false) = false := rfl
            clear K73' K74' K78' hlen
            repeat' (first | (apply W.drawQ (id := 3) (l1 := [0, 1, 2, 3, 4]) (l2 := []); kernel_rfl; kernel_rfl; kernel_rfl; exact payP) | (apply W.drawQ (id := 14) (l1 := [0, 1, 2, 3, 4, 5, 6, 7, 8, 9, 10, 11, 12, 13, 14, 15, 16, 17, 18, 19, 20, 21, 22]) (l2 := []); kernel_rfl; kernel_rfl; kernel_rfl; exact payP) | (refine ⟨⟨trivial, trivial⟩, ?_⟩) | (refine ⟨⟨rfl, rfl⟩, ?_⟩) | (refine WQ.cons rfl rfl ?_) | (refine WT.cons rfl rfl ?_) | (refine WQ.nil ?_) | (refine WT.nil ?_; simp only [tN, bN, eN, true_and]) | (apply WQ.alloc; exact rfl; exact rfl; exact payR; simp only [pM, pN]) | refine W.seq ?_ | refine W.region ?_ | refine W.block ?_ | refine W.scope ?_ | refine WO.cons ?_ | (refine WO.nil ?_; simp only [tN, bN, eN, true_and]) | (apply WO1.rd; exact payR; exact rfl; simp only [pM, pN, rR, rP]) | (refine WO1.gyes (b := true) rfl rfl ?_ rfl ?_; exact payD) | (refine WO1.gno (b := true) rfl rfl ?_ rfl ?_; exact payD; simp only [pM, pN, rR, rP]) | (refine WO1.gyes (b := false) rfl rfl ?_ rfl ?_; exact payD) | (refine WO1.gno (b := false) rfl rfl ?_ rfl ?_; exact payD; simp only [pM, pN, rR, rP]) | (apply WO1.gsplit; exact rfl; exact rfl; exact payR; refine ⟨fun hh => ?_, fun hh => ?_⟩ <;> try simp only [Bool.not_true, Bool.not_false, pM, pN] at hh ⊢) | (apply WO1.call; exact payR; exact payR; (focus (simp only [List.nil_append, List.append_nil]; first | exact k25 _ | exact k38 _ | exact k70 _ | exact k77 _ | exact k40 _ | exact k73 _ | exact k74 _ | exact k71 _ | exact k72 _ | exact k78 _ | exact k41 _)); simp only [pM, pN, rR, rP]) | (apply WO1.ef; exact rfl; exact payE; simp only [pM, pN, rR, rP]) | (simp only [tP, bP, eP, true_and]) | (refine W.ret ?_; simp only [tR, bR, eR, true_and]) | (refine W.skip ?_; simp only [tN, bN, eN, true_and]) | (refine W.exit ?_; simp only [tX, bS, bO, Nat.reduceBEq, tN, bN]) | (refine W.condT ?_ ?_; exact payD) | (refine W.condF ?_ ?_; exact payD) | (apply W.condB; exact payR; refine ⟨fun hh => ?_, fun hh => ?_⟩))
            all_goals simp only [resV_def (X := dX c19) Tryz.func19, Tryz.results19, resultsV, resultV, go_sem, *, Nat.reduceLT, Int.reduceEq, Int.reduceBEq, Int.reduceLE, Int.reduceLT, Nat.reduceAdd, Nat.reduceBEq, Nat.reduceEqDiff, reduceIte, Nat.reduceLeDiff, Nat.reduceMul, Nat.reduceSub, reduceCtorEq, frzRes, dFrz, frzCells, isRet_ret, tupleOf]
          | true =>
            have ntt : (true != true) = false := rfl
            cases hin : inB blank 0 12 with
            | false =>
              have k74 := K74'
              simp only [holeV, hin, Bool.false_and, Bool.and_false, Bool.false_eq_true, if_false] at k74
              clear K73' K74' K78' hlen
              repeat' (first | (apply W.drawQ (id := 3) (l1 := [0, 1, 2, 3, 4]) (l2 := []); kernel_rfl; kernel_rfl; kernel_rfl; exact payP) | (apply W.drawQ (id := 14) (l1 := [0, 1, 2, 3, 4, 5, 6, 7, 8, 9, 10, 11, 12, 13, 14, 15, 16, 17, 18, 19, 20, 21, 22]) (l2 := []); kernel_rfl; kernel_rfl; kernel_rfl; exact payP) | (refine ⟨⟨trivial, trivial⟩, ?_⟩) | (refine ⟨⟨rfl, rfl⟩, ?_⟩) | (refine WQ.cons rfl rfl ?_) | (refine WT.cons rfl rfl ?_) | (refine WQ.nil ?_) | (refine WT.nil ?_; simp only [tN, bN, eN, true_and]) | (apply WQ.alloc; exact rfl; exact rfl; exact payR; simp only [pM, pN]) | refine W.seq ?_ | refine W.region ?_ | refine W.block ?_ | refine W.scope ?_ | refine WO.cons ?_ | (refine WO.nil ?_; simp only [tN, bN, eN, true_and]) | (apply WO1.rd; exact payR; exact rfl; simp only [pM, pN, rR, rP]) | (refine WO1.gyes (b := true) rfl rfl ?_ rfl ?_; exact payD) | (refine WO1.gno (b := true) rfl rfl ?_ rfl ?_; exact payD; simp only [pM, pN, rR, rP]) | (refine WO1.gyes (b := false) rfl rfl ?_ rfl ?_; exact payD) | (refine WO1.gno (b := false) rfl rfl ?_ rfl ?_; exact payD; simp only [pM, pN, rR, rP]) | (apply WO1.gsplit; exact rfl; exact rfl; exact payR; refine ⟨fun hh => ?_, fun hh => ?_⟩ <;> try simp only [Bool.not_true, Bool.not_false, pM, pN] at hh ⊢) | (apply WO1.call; exact payR; exact payR; (focus (simp only [List.nil_append, List.append_nil]; first | exact k25 _ | exact k38 _ | exact k70 _ | exact k77 _ | exact k40 _ | exact k73 _ | exact k74 _ | exact k71 _ | exact k72 _ | exact k78 _ | exact k41 _)); simp only [pM, pN, rR, rP]) | (apply WO1.ef; exact rfl; exact payE; simp only [pM, pN, rR, rP]) | (simp only [tP, bP, eP, true_and]) | (refine W.ret ?_; simp only [tR, bR, eR, true_and]) | (refine W.skip ?_; simp only [tN, bN, eN, true_and]) | (refine W.exit ?_; simp only [tX, bS, bO, Nat.reduceBEq, tN, bN]) | (refine W.condT ?_ ?_; exact payD) | (refine W.condF ?_ ?_; exact payD) | (apply W.condB; exact payR; refine ⟨fun hh => ?_, fun hh => ?_⟩))
              all_goals simp only [resV_def (X := dX c19) Tryz.func19, Tryz.results19, resultsV, resultV, go_sem, *, Nat.reduceLT, Int.reduceEq, Int.reduceBEq, Int.reduceLE, Int.reduceLT, Nat.reduceAdd, Nat.reduceBEq, Nat.reduceEqDiff, reduceIte, Nat.reduceLeDiff, Nat.reduceMul, Nat.reduceSub, reduceCtorEq, frzRes, dFrz, frzCells, isRet_ret, tupleOf]
            | true =>
              have hb := hin
              simp only [inB, Bool.and_eq_true, decide_eq_true_eq] at hb
              obtain ⟨k, rfl⟩ : ∃ k : Nat, blank = k := ⟨blank.toNat, by omega⟩
              obtain ⟨p, hp⟩ := get_some (show k < xs.length by omega)
              obtain ⟨q, hq⟩ := get_some (show k < ys.length by omega)
              have i1 := int_idx V3.out hp
              have i2 := int_idx V4.out hq
              have e1 : xs.getD (k : Int).toNat 0 = p := by simp [List.getD, hp]
              have e2 : ys.getD (k : Int).toNat 0 = q := by simp [List.getD, hq]
              have k74 := K74'
              rw [e1, e2] at k74
              simp only [holeV, hin, Bool.and_self, if_true] at k74
              have k79 : ∀ h, _ := fun h => K79 (X := dX c19) rfl sa st p q V1.out h
              have hsN : slV ptC (slN ((movedL st p q).map ptC.enc)) = some (movedL st p q) := slV_slN (by simp only [movedL, List.length_map]; unfold maxL; omega)
              have hoN := sl_out hsN
              have hl3 : (movedL st p q).length ≤ 32768 := by simp only [movedL, List.length_map]; omega
              have k29 : ∀ h, Cl (dX c19) 29 [slN ((movedL st p q).map ptC.enc), slN ((movedL st p q).map ptC.enc)] h (.ret (.bool true) h none) := fun h => by
                have := K29 (X := dX c19) rfl _ _ _ _ hsN hsN hl3 hl3 h
                simpa using this
              have e0 : ((0 : Int) == 0) = true := rfl
              clear K73' K74' K78' hlen hb hp hq e1 e2 hsN hl3 hst
              generalize slN ((movedL st p q).map ptC.enc) = u at *
              repeat' (first | (apply W.drawQ (id := 3) (l1 := [0, 1, 2, 3, 4]) (l2 := []); kernel_rfl; kernel_rfl; kernel_rfl; exact payP) | (apply W.drawQ (id := 14) (l1 := [0, 1, 2, 3, 4, 5, 6, 7, 8, 9, 10, 11, 12, 13, 14, 15, 16, 17, 18, 19, 20, 21, 22]) (l2 := []); kernel_rfl; kernel_rfl; kernel_rfl; exact payP) | (refine ⟨⟨trivial, trivial⟩, ?_⟩) | (refine ⟨⟨rfl, rfl⟩, ?_⟩) | (refine WQ.cons rfl rfl ?_) | (refine WT.cons rfl rfl ?_) | (refine WQ.nil ?_) | (refine WT.nil ?_; simp only [tN, bN, eN, true_and]) | (apply WQ.alloc; exact rfl; exact rfl; exact payR; simp only [pM, pN]) | refine W.seq ?_ | refine W.region ?_ | refine W.block ?_ | refine W.scope ?_ | refine WO.cons ?_ | (refine WO.nil ?_; simp only [tN, bN, eN, true_and]) | (apply WO1.rd; exact payR; exact rfl; simp only [pM, pN, rR, rP]) | (refine WO1.gyes (b := true) rfl rfl ?_ rfl ?_; exact payD) | (refine WO1.gno (b := true) rfl rfl ?_ rfl ?_; exact payD; simp only [pM, pN, rR, rP]) | (refine WO1.gyes (b := false) rfl rfl ?_ rfl ?_; exact payD) | (refine WO1.gno (b := false) rfl rfl ?_ rfl ?_; exact payD; simp only [pM, pN, rR, rP]) | (apply WO1.gsplit; exact rfl; exact rfl; exact payR; refine ⟨fun hh => ?_, fun hh => ?_⟩ <;> try simp only [Bool.not_true, Bool.not_false, pM, pN] at hh ⊢) | (apply WO1.call; exact payR; exact payR; (focus (simp only [List.nil_append, List.append_nil]; first | exact k25 _ | exact k38 _ | exact k70 _ | exact k77 _ | exact k40 _ | exact k73 _ | exact k74 _ | exact k71 _ | exact k72 _ | exact k78 _ | exact k41 _ | exact k79 _ | exact k29 _)); simp only [pM, pN, rR, rP]) | (apply WO1.ef; exact rfl; exact payE; simp only [pM, pN, rR, rP]) | (simp only [tP, bP, eP, true_and]) | (refine W.ret ?_; simp only [tR, bR, eR, true_and]) | (refine W.skip ?_; simp only [tN, bN, eN, true_and]) | (refine W.exit ?_; simp only [tX, bS, bO, Nat.reduceBEq, tN, bN]) | (refine W.condT ?_ ?_; exact payD) | (refine W.condF ?_ ?_; exact payD) | (apply W.condB; exact payR; refine ⟨fun hh => ?_, fun hh => ?_⟩))
              all_goals simp only [resV_def (X := dX c19) Tryz.func19, Tryz.results19, resultsV, resultV, go_sem, *, Nat.reduceLT, Int.reduceEq, Int.reduceBEq, Int.reduceLE, Int.reduceLT, Nat.reduceAdd, Nat.reduceBEq, Nat.reduceEqDiff, reduceIte, Nat.reduceLeDiff, Nat.reduceMul, Nat.reduceSub, reduceCtorEq, frzRes, dFrz, frzCells, isRet_ret, tupleOf]
    · have hbr2 : (decide ((xs.length : Int) ≤ 15) && decide ((ys.length : Int) ≤ 15)) = false := by simpa using hbr
      have k70 := K70
      rw [hbr2] at k70
      clear hs hr hl hl2 hp1 hp2 hp3 hp4 hsl hsl2 hbr hbr2 K38 K70
      refine ClR.walk (c := _) rfl Tryz.func19 rfl (by kernel_rfl) rfl isRet_fail ?_
      simp only [entryEnv, Nat.reduceAdd]
      repeat' (first | (refine ⟨⟨trivial, trivial⟩, ?_⟩) | (refine ⟨⟨rfl, rfl⟩, ?_⟩) | (refine WQ.cons rfl rfl ?_) | (refine WT.cons rfl rfl ?_) | (refine WQ.nil ?_) | (refine WT.nil ?_; simp only [tN, bN, eN, true_and]) | (apply WQ.alloc; exact rfl; exact rfl; exact payR; simp only [pM, pN]) | refine W.seq ?_ | refine W.region ?_ | refine W.block ?_ | refine W.scope ?_ | refine WO.cons ?_ | (refine WO.nil ?_; simp only [tN, bN, eN, true_and]) | (apply WO1.rd; exact payR; exact rfl; simp only [pM, pN, rR, rP]) | (refine WO1.gyes (b := true) rfl rfl ?_ rfl ?_; exact payD) | (refine WO1.gno (b := true) rfl rfl ?_ rfl ?_; exact payD; simp only [pM, pN, rR, rP]) | (refine WO1.gyes (b := false) rfl rfl ?_ rfl ?_; exact payD) | (refine WO1.gno (b := false) rfl rfl ?_ rfl ?_; exact payD; simp only [pM, pN, rR, rP]) | (apply WO1.gsplit; exact rfl; exact rfl; exact payR; refine ⟨fun hh => ?_, fun hh => ?_⟩ <;> try simp only [Bool.not_true, Bool.not_false, pM, pN] at hh ⊢) | (apply WO1.call; exact payR; exact payR; (focus (simp only [List.nil_append, List.append_nil]; first | exact k25 _ | exact k38 _ | exact k70 _)); simp only [pM, pN, rR, rP]) | (apply WO1.ef; exact rfl; exact payE; simp only [pM, pN, rR, rP]) | (simp only [tP, bP, eP, true_and]) | (refine W.ret ?_; simp only [tR, bR, eR, true_and]) | (refine W.skip ?_; simp only [tN, bN, eN, true_and]) | (refine W.exit ?_; simp only [tX, bS, bO, Nat.reduceBEq, tN, bN]) | (refine W.condT ?_ ?_; exact payD) | (refine W.condF ?_ ?_; exact payD) | (apply W.condB; exact payR; refine ⟨fun hh => ?_, fun hh => ?_⟩))
      all_goals simp only [resV_def (X := dX c19) Tryz.func19, Tryz.results19, resultsV, resultV, go_sem, *, Nat.reduceLT, Int.reduceEq, Int.reduceBEq, Int.reduceLE, Int.reduceLT, Nat.reduceAdd, Nat.reduceBEq, Nat.reduceEqDiff, reduceIte, Nat.reduceLeDiff, Nat.reduceMul, Nat.reduceSub, reduceCtorEq, frzRes, dFrz, frzCells, isRet_ret, tupleOf]
  · have hsl2 : (decide ((st.length : Int) ≤ 6) && decide ((rs.length : Int) ≤ 6)) = false := by simpa using hsl
    have k38 := K38
    rw [hsl2] at k38
    clear hs hr hl hl2 hp1 hp2 hp3 hp4 hsl hsl2 K38 K70
    refine ClR.walk (c := _) rfl Tryz.func19 rfl (by kernel_rfl) rfl isRet_fail ?_
    simp only [entryEnv, Nat.reduceAdd]
    repeat' (first | (refine ⟨⟨trivial, trivial⟩, ?_⟩) | (refine ⟨⟨rfl, rfl⟩, ?_⟩) | (refine WQ.cons rfl rfl ?_) | (refine WT.cons rfl rfl ?_) | (refine WQ.nil ?_) | (refine WT.nil ?_; simp only [tN, bN, eN, true_and]) | (apply WQ.alloc; exact rfl; exact rfl; exact payR; simp only [pM, pN]) | refine W.seq ?_ | refine W.region ?_ | refine W.block ?_ | refine W.scope ?_ | refine WO.cons ?_ | (refine WO.nil ?_; simp only [tN, bN, eN, true_and]) | (apply WO1.rd; exact payR; exact rfl; simp only [pM, pN, rR, rP]) | (refine WO1.gyes (b := true) rfl rfl ?_ rfl ?_; exact payD) | (refine WO1.gno (b := true) rfl rfl ?_ rfl ?_; exact payD; simp only [pM, pN, rR, rP]) | (refine WO1.gyes (b := false) rfl rfl ?_ rfl ?_; exact payD) | (refine WO1.gno (b := false) rfl rfl ?_ rfl ?_; exact payD; simp only [pM, pN, rR, rP]) | (apply WO1.gsplit; exact rfl; exact rfl; exact payR; refine ⟨fun hh => ?_, fun hh => ?_⟩ <;> try simp only [Bool.not_true, Bool.not_false, pM, pN] at hh ⊢) | (apply WO1.call; exact payR; exact payR; (focus (simp only [List.nil_append, List.append_nil]; first | exact k25 _ | exact k38 _)); simp only [pM, pN, rR, rP]) | (apply WO1.ef; exact rfl; exact payE; simp only [pM, pN, rR, rP]) | (simp only [tP, bP, eP, true_and]) | (refine W.ret ?_; simp only [tR, bR, eR, true_and]) | (refine W.skip ?_; simp only [tN, bN, eN, true_and]) | (refine W.exit ?_; simp only [tX, bS, bO, Nat.reduceBEq, tN, bN]) | (refine W.condT ?_ ?_; exact payD) | (refine W.condF ?_ ?_; exact payD) | (apply W.condB; exact payR; refine ⟨fun hh => ?_, fun hh => ?_⟩))
    all_goals simp only [resV_def (X := dX c19) Tryz.func19, Tryz.results19, resultsV, resultV, go_sem, *, Nat.reduceLT, Int.reduceEq, Int.reduceBEq, Int.reduceLE, Int.reduceLT, Nat.reduceAdd, Nat.reduceBEq, Nat.reduceEqDiff, reduceIte, Nat.reduceLeDiff, Nat.reduceMul, Nat.reduceSub, reduceCtorEq, frzRes, dFrz, frzCells, isRet_ret, tupleOf]
end Go.AM
set_option maxRecDepth 100000
namespace Go.AM
open Go Go.Proofs
variable [Keep]
theorem ag48 : isAggT Tryz.prog 48 = true := by simp [isAggT, Tryz.underlying48]
theorem ag51 : isAggT Tryz.prog 51 = true := by simp [isAggT, Tryz.underlying51]
theorem ag95 : isAggT Tryz.prog 95 = true := by simp [isAggT, Tryz.underlying95]
theorem Sh.sp {n : Nat} {xs : List AV} (h : Sh Tryz.prog (n + 2) 48 xs) : ∃ p : Sp, xs = [.int .i64 p.lo, .int .i64 p.hi] := by
  obtain ⟨x, y, rfl, h1, x2, y2, rfl, h2, rfl⟩ := Sh.struct Tryz.underlying48 h
  obtain ⟨a, rfl⟩ := Sh.i64 h1
  obtain ⟨b, rfl⟩ := Sh.i64 h2
  exact ⟨⟨a, b⟩, rfl⟩
theorem Sh.rdg {n : Nat} {xs : List AV} (h : Sh Tryz.prog (n + 2) 95 xs) : ∃ p : Rdg, xs = [.int .i64 p.b, .int .i64 p.x, .int .i64 p.y, .int .i64 p.err] := by
  obtain ⟨x, y, rfl, h1, x2, y2, rfl, h2, x3, y3, rfl, h3, x4, y4, rfl, h4, rfl⟩ := Sh.struct Tryz.underlying95 h
  obtain ⟨a, rfl⟩ := Sh.i64 h1
  obtain ⟨b, rfl⟩ := Sh.i64 h2
  obtain ⟨c, rfl⟩ := Sh.i64 h3
  obtain ⟨d, rfl⟩ := Sh.i64 h4
  exact ⟨⟨a, b, c, d⟩, rfl⟩
theorem Sh.rdgs {n : Nat} {xs : List AV} (h : Sh Tryz.prog (n + 3) 49 xs) : ∃ (a : AV) (l : List Rdg), xs = [a] ∧ isSl a (l.map rdgC.enc) :=
  Sh.slice rdgC Tryz.underlying49 (fun xs h => by
    obtain ⟨p, rfl⟩ := Sh.rdg h
    exact ⟨p, by rw [ag95]; rfl⟩) h
theorem Sh.mach {n : Nat} {xs : List AV} (h : Sh Tryz.prog (n + 4) 51 xs) : ∃ (sa ra : AV) (cx cy wx wy : Sp) (st : List Pt) (rs : List Rdg),
    xs = [sa, .int .i64 cx.lo, .int .i64 cx.hi, .int .i64 cy.lo, .int .i64 cy.hi, .int .i64 wx.lo, .int .i64 wx.hi, .int .i64 wy.lo, .int .i64 wy.hi, ra] ∧ isSl sa (st.map ptC.enc) ∧ isSl ra (rs.map rdgC.enc) := by
  obtain ⟨x1, y1, rfl, h1, x2, y2, rfl, h2, x3, y3, rfl, h3, x4, y4, rfl, h4, x5, y5, rfl, h5, x6, y6, rfl, h6, rfl⟩ := Sh.struct Tryz.underlying51 h
  obtain ⟨sa, st, rfl, hs⟩ := Sh.pts h1
  obtain ⟨cx, rfl⟩ := Sh.sp h2
  obtain ⟨cy, rfl⟩ := Sh.sp h3
  obtain ⟨wx, rfl⟩ := Sh.sp h4
  obtain ⟨wy, rfl⟩ := Sh.sp h5
  obtain ⟨ra, rs, rfl, hr⟩ := Sh.rdgs h6
  exact ⟨sa, ra, cx, cy, wx, wy, st, rs, rfl, hs, hr⟩
theorem ag39 : isAggT Tryz.prog 39 = false := by simp [isAggT, Tryz.underlying39]
theorem ag109 : isAggT Tryz.prog 109 = true := by simp [isAggT, Tryz.underlying109]
theorem Sh.ints {n : Nat} {xs : List AV} (h : Sh Tryz.prog (n + 2) 39 xs) : ∃ (a : AV) (l : List Int), xs = [a] ∧ isSl a (l.map intC.enc) :=
  Sh.slice intC Tryz.underlying39 (fun xs h => by
    obtain ⟨i, rfl⟩ := Sh.i64 h
    exact ⟨i, by rw [ag3]; rfl⟩) h
theorem Sh.truth {n : Nat} {xs : List AV} (h : Sh Tryz.prog (n + 3) 109 xs) : ∃ (xa ya : AV) (l r : List Int), xs = [xa, ya] ∧ isSl xa (l.map intC.enc) ∧ isSl ya (r.map intC.enc) := by
  obtain ⟨x1, y1, rfl, h1, x2, y2, rfl, h2, rfl⟩ := Sh.struct Tryz.underlying109 h
  obtain ⟨xa, l, rfl, hl⟩ := Sh.ints h1
  obtain ⟨ya, r, rfl, hr⟩ := Sh.ints h2
  exact ⟨xa, ya, l, r, rfl, hl, hr⟩
end Go.AM
set_option maxRecDepth 100000
namespace Go.AM
open Go Go.Proofs
variable [Keep]
theorem c19_sound (hT : TabK Tryz.prog) : Sound (dX c19) := dX_sound (fun f g h => by
  unfold c19 at h
  split at h
  · cases h; exact F38
  · cases h; exact F40
  · cases h; exact F41
  · cases h; exact F70
  · cases h; exact F71
  · cases h; exact F72
  · cases h; exact F73
  · cases h; exact F74
  · cases h; exact F77
  · cases h; exact F78
  · cases h; exact F79
  · exact (c25_sound hT).intr f g h)
end Go.AM
namespace Go.Proofs.YtlhcjccaimmhgaaGreatDoor
open Go Go.AM Go.ChangeShapes Go.WideShapes Go.ChangeAt Go.RowKit
theorem law19 [Keep] (hT : TabK Tryz.prog) (avs : List AV) (h : ArgsOk Tryz.prog Tryz.f19.params.toList avs) : ∃ X, X.P = Tryz.prog ∧ Sound X ∧ ∃ h', Cl X 19 avs emptyHp (.ret (.bool true) h' none) := by
  rw [Tryz.params19] at h
  rcases h with _ | ⟨k1, _ | ⟨k3, _ | ⟨k2, _ | _⟩⟩⟩
  obtain ⟨sa, ra, cx, cy, wx, wy, st, rs, rfl, hs, hr⟩ := Sh.mach k1
  obtain ⟨xa, ya, xs, ys, rfl, hl, hl2⟩ := Sh.truth k3
  obtain ⟨n, rfl⟩ := Sh.i64 k2
  rw [ag51, ag109, ag3]
  exact ⟨dX c19, rfl, c19_sound hT, (T19 sa ra xa ya cx cy wx wy st rs xs ys n hs hr hl hl2).gives⟩
theorem drillRuns_lifted (os : Os) (started : os.Started) (H : Type) (enc : TypeId × Value → H) :
    ReturnsInHanded {} Tryz.checked os 19 .any (fun w args => (Rows.drillRunsSpec.pre enc Tryz.prog Tryz.f19 Rows.drillRunsRow.domain false w args ∧ laidMetH Tryz.prog laidL w) ∧ sizedMet enc Tryz.prog Tryz.f19 (OpenSpec.ofChange Rows.drillRunsSpec) false w args)
      (Rows.drillRunsSpec.post enc Tryz.prog Tryz.f19 false true false false) := by
  refine returnsInHanded_of_change_and (C := Tryz.checked) (X := fun w _ => laidMetH Tryz.prog laidL w) (fun _ _ _ hh h => h.of_heap hh) own started (by kernel_rfl) Tryz.func19
    (ChangeSpec.witness_shaped (enc := enc) (C := Tryz.checked) (os := os) (X := fun w _ => laidMetH Tryz.prog laidL w) false (World.laidAll Tryz.prog os laidL) #[.agg #[.slice none 0 0, .int .i64 0, .int .i64 0, .int .i64 0, .int .i64 0, .int .i64 0, .int .i64 0, .int .i64 0, .int .i64 0, .slice none 0 0], .agg #[.slice none 0 0, .slice none 0 0], .int .i64 0] 8 (World.laidAll_os _ _ _)
      (World.shaped_of_ZipB (by kernel_rfl) (by kernel_rfl)) (by kernel_rfl) (by kernel_rfl) (by kernel_rfl)
      (by rw [MakeChecks.laidMetH_plain _ _ _ (by kernel_rfl)]; exact laidMet_laidAll _ (by kernel_rfl) (by kernel_rfl))) ?_
  intro W base args ds gs before hval hW _ _ hL _
  exact lawHolds Tryz.func19 (by kernel_rfl) rfl (fun ds hd => by
    match ds, hd with
    | [d1, d2, d3], _ => rfl) (by rw [Tryz.params19]; intro t ht; simp at ht; rcases ht with rfl | rfl | rfl <;> kernel_rfl) (by rw [Tryz.params19]; intro t ht; simp at ht; rcases ht with rfl | rfl | rfl <;> exact ⟨by kernel_rfl, of_decide_eq_true (by kernel_rfl)⟩)
    (fun hT avs h => law19 hT avs h) W base args ds gs before hval hW hL
theorem in19 : (Rows.drillRunsRow.inPlace == Tryz.prog.inPlace 19) = true := by kernel_rfl
theorem unf19 : (Rows.drillRunsRow.unfollowed == Tryz.prog.unfollowed 19) = true := by kernel_rfl
theorem rec19 : (Rows.drillRunsRow.recurses == Tryz.prog.recurses 19) = true := by kernel_rfl
theorem nam19 : (Rows.drillRunsRow.named == Tryz.prog.varsNamed 19) = true := by kernel_rfl
theorem closed19 : joinedFacts Tryz.prog 19 Tryz.f19 Rows.drillRunsSpec Rows.drillRunsRow = true := by
  unfold joinedFacts
  rw [enter_ok, lifts_ok, make_ok]
  repeat' (with_reducible apply and_mk)
  all_goals (first | with_reducible exact laidOut | with_reducible exact rowed | with_reducible exact in19 | with_reducible exact unf19 | with_reducible exact rec19 | with_reducible exact nam19 | kernel_rfl)
theorem drillRuns_holds : Rows.DrillRunsSaid :=
  OpenClaim.holds_of_wide 19 Tryz.f19 rfl rfl rfl rfl rfl rfl rfl ⟨rfl, rfl, rfl, rfl, rfl⟩ rfl rfl rfl rfl rfl (by kernel_rfl) Tryz.func19 closed19
    (of_decide_eq_true (by kernel_rfl)) (by unfold Func.isWrapper; rw [if_neg (of_decide_eq_false (by kernel_rfl))]; exact ⟨rfl, rfl⟩)
    (fun os started H enc _ => drillRuns_lifted os started H enc)
theorem goes19 : false = Rows.drillRunsRow.goesBy Tryz.prog := by kernel_rfl
theorem drillRuns_card : Rows.DrillRunsCardSaid :=
  Claim7.holds_tied_plain_at .later [] [.data, .data, .data] true (true, "b61a08fa8ce36e10ae208529fc07d9da226449fa0c1a03ee5c8317728ea357ba") true drillRuns_holds (fun _ h => by cases h) (by kernel_rfl) (fun _ h => by cases h) drillRuns_row_tie rfl ⟨rfl, rfl⟩ main_ok rfl
    (fun f fn hf hfn => by
      obtain rfl : f = 19 := Option.some.inj ((show Tryz.prog.funcNamed "nacre/nacrelaw02.DrillRuns" = some 19 by kernel_rfl).symm.trans hf) |>.symm
      obtain rfl : fn = Tryz.f19 := (Option.some.inj (Tryz.func19.symm.trans hfn)).symm
      exact ⟨looks_ok, fun j t ht => by
        rw [Tryz.params19] at ht
        have hm : t ∈ [51, 109, 3] := by simpa using Array.mem_of_getElem? ht
        have hall : ([51, 109, 3].all fun u => !Tryz.prog.wantsStandIn u) = true := by kernel_rfl
        exact (show Tryz.prog.wantsStandIn t = false by simpa using List.all_eq_true.1 hall t hm)⟩)
    goes19
end Go.Proofs.YtlhcjccaimmhgaaGreatDoor
