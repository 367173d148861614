/-
  DrillKnowns: for every machine and every blank the law returns true, and its arguments read behind the call as before. No condition but the row's own: the tables of Go's library that it lists hold what the program's text lays there.
-/
import Derived.Test.YtlhcjccaimmhgaaGreatDoorFnD
import Derived.Test.YtlhcjccaimmhgaaGreatDoorShared
import Derived.Test.YtlhcjccaimmhgaaGreatDoorHeadB
import Derived.Test.YtlhcjccaimmhgaaGreatDoorCards
set_option linter.unusedSectionVars false
set_option linter.unusedVariables false
set_option linter.unusedSimpArgs false
set_option maxRecDepth 100000
namespace Go.AM
open Go Go.Proofs
variable [Keep]
attribute [local irreducible] W WO WO1 WD WQ WT thenQ blockQ endR isRet retK Cl ClR

theorem eqg48 : Tryz.prog.eqGuardType Tryz.prog.depth 48 = false := by kernel_rfl
theorem eqh48 : Tryz.prog.stoodInHeld 48 = false := by kernel_rfl
theorem eq48 (a b c d : Int) : binV Tryz.prog .eql 48 false (.agg [.int .i64 a, .int .i64 b]) (.agg [.int .i64 c, .int .i64 d]) = some (.bool (a == c && b == d)) := by
  simp only [binV, eqOp, eqV, eqg48, Bool.false_eq_true, if_false, eqDepth, eqT, Tryz.underlying48, eqh48, eqFields]
  simp [eqFields, readT, ty_lay3, readAt, Tryz.underlying3]
  cases h1 : (a == c) <;> cases h2 : (b == d) <;> simp_all
theorem slLen_mk {a : AV} {es : List AV} (h : isSl a es) : slLen a = some es.length := by rcases h with ⟨rfl | rfl, rfl⟩ | rfl <;> rfl
noncomputable def c6 : FuncId → Option (List AV → Heap → Option (AV × Heap))
  | 38 => some (pureFn sp38)
  | 39 => some (pureFn sp39)
  | 40 => some (pureFn sp40)
  | 41 => some (pureFn sp41)
  | 42 => some (pureFn sp42)
  | f => c25 cK f
attribute [local irreducible] boundsS machB
set_option maxHeartbeats 4000000 in
theorem T6 (sa ra : AV) (cx cy wx wy : Sp) (st : List Pt) (rs : List Rdg) (blank : Int) (hs : isSl sa (st.map ptC.enc)) (hr : isSl ra (rs.map rdgC.enc)) :
    ClR (dX c6) 6 [.agg [sa, .int .i64 cx.lo, .int .i64 cx.hi, .int .i64 cy.lo, .int .i64 cy.hi, .int .i64 wx.lo, .int .i64 wx.hi, .int .i64 wy.lo, .int .i64 wy.hi, ra], .int .i64 blank] emptyHp (isRet (.bool true)) := by
  have hp1 := hs.pur (enc_pur ptC st)
  have hp2 := hr.pur (enc_pur rdgC rs)
  have hout := hs.out
  have hout2 := hr.out
  have htup := hs.tup
  have htup2 := hr.tup
  have k25 : ∀ h, Cl (dX c6) 25 [] h (.ret (.bool true) h none) := fun h => K25 rfl h
  have K38 : ∀ h, Cl (dX c6) 38 [.agg [sa, .int .i64 cx.lo, .int .i64 cx.hi, .int .i64 cy.lo, .int .i64 cy.hi, .int .i64 wx.lo, .int .i64 wx.hi, .int .i64 wy.lo, .int .i64 wy.hi, ra]] h (.ret (.bool (decide ((st.length : Int) ≤ 6) && decide ((rs.length : Int) ≤ 6))) h none) := fun h => by
    have h1 := slLen_mk hs
    have h2 := slLen_mk hr
    exact Cl.intr (g := pureFn sp38) rfl (by simp [pureFn, AV.pur, AV.purL, hp1, hp2, sp38, h1, h2])
  by_cases hsl : decide ((st.length : Int) ≤ 6) && decide ((rs.length : Int) ≤ 6)
  · have hsl2 : (decide ((st.length : Int) ≤ 6) && decide ((rs.length : Int) ≤ 6)) = true := hsl
    have k38 := K38
    rw [hsl2] at k38
    simp only [Bool.and_eq_true, decide_eq_true_eq] at hsl2
    have v1 : slV ptC sa = some st := slV_mk hs (by unfold maxL; omega)
    have v2 : slV rdgC ra = some rs := slV_mk hr (by unfold maxL; omega)
    have K39' : ∀ h, Cl (dX c6) 39 [.agg [sa, .int .i64 cx.lo, .int .i64 cx.hi, .int .i64 cy.lo, .int .i64 cy.hi, .int .i64 wx.lo, .int .i64 wx.hi, .int .i64 wy.lo, .int .i64 wy.hi, ra], .int .i64 blank] h (.ret (knownV (machB st cx cy wx wy rs) (boundsS (ax0 cx wx rs [])) (boundsS (ax1 cy wy rs [])) blank) h none) := fun h =>
      Cl.intr (g := pureFn sp39) rfl (by simp [pureFn, AV.pur, AV.purL, hp1, hp2, sp39, v1, v2])
    have K40' : ∀ h, Cl (dX c6) 40 [.agg [sa, .int .i64 cx.lo, .int .i64 cx.hi, .int .i64 cy.lo, .int .i64 cy.hi, .int .i64 wx.lo, .int .i64 wx.hi, .int .i64 wy.lo, .int .i64 wy.hi, ra]] h (.ret (.int .i64 (ableI (machB st cx cy wx wy rs) ((boundsS (ax0 cx wx rs [])).isSome && (boundsS (ax1 cy wy rs [])).isSome))) h none) := fun h =>
      Cl.intr (g := pureFn sp40) rfl (by simp [pureFn, AV.pur, AV.purL, hp1, hp2, sp40, v1, v2])
    have k41 : ∀ h, Cl (dX c6) 41 [.int .i64 blank, .int .i64 0] h (.ret (.bool (inB blank 0 12)) h none) := fun h => Cl.intr (g := pureFn sp41) rfl rfl
    have K42' : ∀ a b, boundsS (ax0 cx wx rs []) = some a → boundsS (ax1 cy wy rs []) = some b → machB st cx cy wx wy rs = true → inB blank 0 12 = true → ∀ h, Cl (dX c6) 42 [.agg [sa, .int .i64 cx.lo, .int .i64 cx.hi, .int .i64 cy.lo, .int .i64 cy.hi, .int .i64 wx.lo, .int .i64 wx.hi, .int .i64 wy.lo, .int .i64 wy.hi, ra], .int .i64 blank] h
        (.ret (.tuple [spC.enc (a.getD blank.toNat ⟨0, 0⟩), spC.enc (b.getD blank.toNat ⟨0, 0⟩)]) h none) := fun a b hA hB hok hin h =>
      Cl.intr (g := pureFn sp42) rfl (by simp [pureFn, AV.pur, AV.purL, hp1, hp2, sp42, v1, v2, hA, hB, hok, hin])
    have h48 := eq48
    have n2 : ((2 : Int) != 0) = true := rfl
    have n7 : ((7 : Int) != 0) = true := rfl
    have n0 : ((0 : Int) != 0) = false := rfl
    have bt : (true && true) = true := rfl
    clear hs hr hp1 hp2 v1 v2 hsl hsl2 K38
    generalize machB st cx cy wx wy rs = ok at *
    generalize boundsS (ax0 cx wx rs []) = A at *
    generalize boundsS (ax1 cy wy rs []) = B at *
    refine ClR.walk (c := _) rfl Tryz.func6 rfl (by kernel_rfl) rfl isRet_fail ?_
    simp only [entryEnv, Nat.reduceAdd]
    cases ok with
    | false =>
      have k39 := K39'
      have k40 := K40'
      simp only [knownV, spanO, ableI, Bool.false_and, Bool.false_eq_true, if_false] at k39 k40
      clear K39' K40' K42'
      repeat' (first
      | (refine ⟨⟨trivial, trivial⟩, ?_⟩)
      | (refine ⟨⟨rfl, rfl⟩, ?_⟩)
      | (refine WQ.cons rfl rfl ?_)
      | (refine WT.cons rfl rfl ?_)
      | (refine WQ.nil ?_)
      | (refine WT.nil ?_; simp only [thenQ_norm, blockQ_norm, endR_norm, true_and])
      | (apply WQ.alloc; (focus (exact rfl)); (focus (exact rfl)); (focus (exact payR)); simp only [put_mk, put_no])
      | refine W.seq ?_
      | refine W.region ?_
      | refine W.block ?_
      | refine W.scope ?_
      | refine WO.cons ?_
      | (refine WO.nil ?_; simp only [thenQ_norm, blockQ_norm, endR_norm, true_and])
      | (apply WO1.rd; (focus (exact payR)); (focus (exact rfl)); simp only [put_mk, put_no, retK_ret, retK_pan])
      | (refine WO1.gyes (b := true) rfl rfl ?_ rfl ?_; (focus (exact payD)))
      | (refine WO1.gno (b := true) rfl rfl ?_ rfl ?_; (focus (exact payD)); simp only [put_mk, put_no, retK_ret, retK_pan])
      | (refine WO1.gyes (b := false) rfl rfl ?_ rfl ?_; (focus (exact payD)))
      | (refine WO1.gno (b := false) rfl rfl ?_ rfl ?_; (focus (exact payD)); simp only [put_mk, put_no, retK_ret, retK_pan])
      | (apply WO1.gsplit; (focus (exact rfl)); (focus (exact rfl)); (focus (exact payR)); refine ⟨fun hh => ?_, fun hh => ?_⟩ <;> try simp only [Bool.not_true, Bool.not_false, put_mk, put_no] at hh ⊢)
      | (apply WO1.call; (focus (exact payR)); (focus (exact payR)); (focus (simp only [List.nil_append, List.append_nil]; first | exact k25 _ | exact k38 _ | exact k39 _ | exact k40 _ | exact k41 _)); simp only [put_mk, put_no, retK_ret, retK_pan])
      | (apply WO1.ef; (focus (exact rfl)); (focus (exact payE)); simp only [put_mk, put_no, retK_ret, retK_pan])
      | (simp only [thenQ_pan, blockQ_pan, endR_pan, true_and])
      | (refine W.ret ?_; simp only [thenQ_ret, blockQ_ret, endR_ret, true_and])
      | (refine W.skip ?_; simp only [thenQ_norm, blockQ_norm, endR_norm, true_and])
      | (refine W.exit ?_; simp only [thenQ_exit, blockQ_same, blockQ_other, Nat.reduceBEq, thenQ_norm, blockQ_norm])
      | (refine W.condT ?_ ?_; (focus (exact payD)))
      | (refine W.condF ?_ ?_; (focus (exact payD)))
      | (apply W.condB; (focus (exact payR)); refine ⟨fun hh => ?_, fun hh => ?_⟩))
      all_goals simp only [resV_def (X := dX c6) Tryz.func6, Tryz.results6, resultsV, resultV, go_sem, *, Nat.reduceLT, Int.reduceEq, Int.reduceBEq, Int.reduceLE, Int.reduceLT, Nat.reduceAdd, Nat.reduceBEq, Nat.reduceEqDiff, reduceIte, Nat.reduceLeDiff, Nat.reduceMul, Nat.reduceSub, reduceCtorEq, frzRes, dFrz, frzCells, isRet_ret, tupleOf]
    | true =>
      cases hin : inB blank 0 12 with
      | false =>
        have k39 := K39'
        have k40 := K40'
        simp only [knownV, spanO, hin, Bool.and_false, Bool.false_eq_true, if_false] at k39
        generalize ableI true (A.isSome && B.isSome) = ab at k40
        clear K39' K40' K42'
        repeat' (first
      | (refine ⟨⟨trivial, trivial⟩, ?_⟩)
      | (refine ⟨⟨rfl, rfl⟩, ?_⟩)
      | (refine WQ.cons rfl rfl ?_)
      | (refine WT.cons rfl rfl ?_)
      | (refine WQ.nil ?_)
      | (refine WT.nil ?_; simp only [thenQ_norm, blockQ_norm, endR_norm, true_and])
      | (apply WQ.alloc; (focus (exact rfl)); (focus (exact rfl)); (focus (exact payR)); simp only [put_mk, put_no])
      | refine W.seq ?_
      | refine W.region ?_
      | refine W.block ?_
      | refine W.scope ?_
      | refine WO.cons ?_
      | (refine WO.nil ?_; simp only [thenQ_norm, blockQ_norm, endR_norm, true_and])
      | (apply WO1.rd; (focus (exact payR)); (focus (exact rfl)); simp only [put_mk, put_no, retK_ret, retK_pan])
      | (refine WO1.gyes (b := true) rfl rfl ?_ rfl ?_; (focus (exact payD)))
      | (refine WO1.gno (b := true) rfl rfl ?_ rfl ?_; (focus (exact payD)); simp only [put_mk, put_no, retK_ret, retK_pan])
      | (refine WO1.gyes (b := false) rfl rfl ?_ rfl ?_; (focus (exact payD)))
      | (refine WO1.gno (b := false) rfl rfl ?_ rfl ?_; (focus (exact payD)); simp only [put_mk, put_no, retK_ret, retK_pan])
      | (apply WO1.gsplit; (focus (exact rfl)); (focus (exact rfl)); (focus (exact payR)); refine ⟨fun hh => ?_, fun hh => ?_⟩ <;> try simp only [Bool.not_true, Bool.not_false, put_mk, put_no] at hh ⊢)
      | (apply WO1.call; (focus (exact payR)); (focus (exact payR)); (focus (simp only [List.nil_append, List.append_nil]; first | exact k25 _ | exact k38 _ | exact k39 _ | exact k40 _ | exact k41 _)); simp only [put_mk, put_no, retK_ret, retK_pan])
      | (apply WO1.ef; (focus (exact rfl)); (focus (exact payE)); simp only [put_mk, put_no, retK_ret, retK_pan])
      | (simp only [thenQ_pan, blockQ_pan, endR_pan, true_and])
      | (refine W.ret ?_; simp only [thenQ_ret, blockQ_ret, endR_ret, true_and])
      | (refine W.skip ?_; simp only [thenQ_norm, blockQ_norm, endR_norm, true_and])
      | (refine W.exit ?_; simp only [thenQ_exit, blockQ_same, blockQ_other, Nat.reduceBEq, thenQ_norm, blockQ_norm])
      | (refine W.condT ?_ ?_; (focus (exact payD)))
      | (refine W.condF ?_ ?_; (focus (exact payD)))
      | (apply W.condB; (focus (exact payR)); refine ⟨fun hh => ?_, fun hh => ?_⟩))
        all_goals simp only [resV_def (X := dX c6) Tryz.func6, Tryz.results6, resultsV, resultV, go_sem, *, Nat.reduceLT, Int.reduceEq, Int.reduceBEq, Int.reduceLE, Int.reduceLT, Nat.reduceAdd, Nat.reduceBEq, Nat.reduceEqDiff, reduceIte, Nat.reduceLeDiff, Nat.reduceMul, Nat.reduceSub, reduceCtorEq, frzRes, dFrz, frzCells, isRet_ret, tupleOf]
      | true =>
        by_cases hAB : A.isSome && B.isSome
        · obtain ⟨a, rfl⟩ : ∃ a, A = some a := by cases A with | none => simp at hAB | some a => exact ⟨a, rfl⟩
          obtain ⟨b, rfl⟩ : ∃ b, B = some b := by cases B with | none => simp at hAB | some a => exact ⟨a, rfl⟩
          have k39 := K39'
          have k40 := K40'
          have k42 := K42' a b rfl rfl rfl hin
          simp only [knownV, hin, ableI, Bool.and_self, if_true, Option.isSome_some, spC] at k39 k40 k42
          generalize a.getD blank.toNat ⟨0, 0⟩ = p at *
          generalize b.getD blank.toNat ⟨0, 0⟩ = q at *
          have b1 : (p.lo == p.lo) = true := beq_self_eq_true _
          have b2 : (p.hi == p.hi) = true := beq_self_eq_true _
          have b3 : (q.lo == q.lo) = true := beq_self_eq_true _
          have b4 : (q.hi == q.hi) = true := beq_self_eq_true _
          clear K39' K40' K42' hAB
          repeat' (first
      | (refine ⟨⟨trivial, trivial⟩, ?_⟩)
      | (refine ⟨⟨rfl, rfl⟩, ?_⟩)
      | (refine WQ.cons rfl rfl ?_)
      | (refine WT.cons rfl rfl ?_)
      | (refine WQ.nil ?_)
      | (refine WT.nil ?_; simp only [thenQ_norm, blockQ_norm, endR_norm, true_and])
      | (apply WQ.alloc; (focus (exact rfl)); (focus (exact rfl)); (focus (exact payR)); simp only [put_mk, put_no])
      | refine W.seq ?_
      | refine W.region ?_
      | refine W.block ?_
      | refine W.scope ?_
      | refine WO.cons ?_
      | (refine WO.nil ?_; simp only [thenQ_norm, blockQ_norm, endR_norm, true_and])
      | (apply WO1.rd; (focus (exact payR)); (focus (exact rfl)); simp only [put_mk, put_no, retK_ret, retK_pan])
      | (refine WO1.gyes (b := true) rfl rfl ?_ rfl ?_; (focus (exact payD)))
      | (refine WO1.gno (b := true) rfl rfl ?_ rfl ?_; (focus (exact payD)); simp only [put_mk, put_no, retK_ret, retK_pan])
      | (refine WO1.gyes (b := false) rfl rfl ?_ rfl ?_; (focus (exact payD)))
      | (refine WO1.gno (b := false) rfl rfl ?_ rfl ?_; (focus (exact payD)); simp only [put_mk, put_no, retK_ret, retK_pan])
      | (apply WO1.gsplit; (focus (exact rfl)); (focus (exact rfl)); (focus (exact payR)); refine ⟨fun hh => ?_, fun hh => ?_⟩ <;> try simp only [Bool.not_true, Bool.not_false, put_mk, put_no] at hh ⊢)
      | (apply WO1.call; (focus (exact payR)); (focus (exact payR)); (focus (simp only [List.nil_append, List.append_nil]; first | exact k25 _ | exact k38 _ | exact k39 _ | exact k40 _ | exact k41 _ | exact k42 _)); simp only [put_mk, put_no, retK_ret, retK_pan])
      | (apply WO1.ef; (focus (exact rfl)); (focus (exact payE)); simp only [put_mk, put_no, retK_ret, retK_pan])
      | (simp only [thenQ_pan, blockQ_pan, endR_pan, true_and])
      | (refine W.ret ?_; simp only [thenQ_ret, blockQ_ret, endR_ret, true_and])
      | (refine W.skip ?_; simp only [thenQ_norm, blockQ_norm, endR_norm, true_and])
      | (refine W.exit ?_; simp only [thenQ_exit, blockQ_same, blockQ_other, Nat.reduceBEq, thenQ_norm, blockQ_norm])
      | (refine W.condT ?_ ?_; (focus (exact payD)))
      | (refine W.condF ?_ ?_; (focus (exact payD)))
      | (apply W.condB; (focus (exact payR)); refine ⟨fun hh => ?_, fun hh => ?_⟩))
          all_goals simp only [resV_def (X := dX c6) Tryz.func6, Tryz.results6, resultsV, resultV, go_sem, *, Nat.reduceLT, Int.reduceEq, Int.reduceBEq, Int.reduceLE, Int.reduceLT, Nat.reduceAdd, Nat.reduceBEq, Nat.reduceEqDiff, reduceIte, Nat.reduceLeDiff, Nat.reduceMul, Nat.reduceSub, reduceCtorEq, frzRes, dFrz, frzCells, isRet_ret, tupleOf]
        · have hAB : (A.isSome && B.isSome) = false := by simpa using hAB
          have k39 := K39'
          have k40 := K40'
          have hk : knownV true A B blank = .tuple [.agg [.int .i64 0, .int .i64 0], .agg [.int .i64 0, .int .i64 0], .int .i64 7] := by
            unfold knownV
            rw [hin]
            simp only [Bool.and_self, if_true]
            cases A <;> cases B <;> first | rfl | simp at hAB
          rw [hk] at k39
          simp only [ableI, hAB, Bool.false_eq_true, if_false, if_true] at k40
          clear K39' K40' K42' hAB hk
          repeat' (first
      | (refine ⟨⟨trivial, trivial⟩, ?_⟩)
      | (refine ⟨⟨rfl, rfl⟩, ?_⟩)
      | (refine WQ.cons rfl rfl ?_)
      | (refine WT.cons rfl rfl ?_)
      | (refine WQ.nil ?_)
      | (refine WT.nil ?_; simp only [thenQ_norm, blockQ_norm, endR_norm, true_and])
      | (apply WQ.alloc; (focus (exact rfl)); (focus (exact rfl)); (focus (exact payR)); simp only [put_mk, put_no])
      | refine W.seq ?_
      | refine W.region ?_
      | refine W.block ?_
      | refine W.scope ?_
      | refine WO.cons ?_
      | (refine WO.nil ?_; simp only [thenQ_norm, blockQ_norm, endR_norm, true_and])
      | (apply WO1.rd; (focus (exact payR)); (focus (exact rfl)); simp only [put_mk, put_no, retK_ret, retK_pan])
      | (refine WO1.gyes (b := true) rfl rfl ?_ rfl ?_; (focus (exact payD)))
      | (refine WO1.gno (b := true) rfl rfl ?_ rfl ?_; (focus (exact payD)); simp only [put_mk, put_no, retK_ret, retK_pan])
      | (refine WO1.gyes (b := false) rfl rfl ?_ rfl ?_; (focus (exact payD)))
      | (refine WO1.gno (b := false) rfl rfl ?_ rfl ?_; (focus (exact payD)); simp only [put_mk, put_no, retK_ret, retK_pan])
      | (apply WO1.gsplit; (focus (exact rfl)); (focus (exact rfl)); (focus (exact payR)); refine ⟨fun hh => ?_, fun hh => ?_⟩ <;> try simp only [Bool.not_true, Bool.not_false, put_mk, put_no] at hh ⊢)
      | (apply WO1.call; (focus (exact payR)); (focus (exact payR)); (focus (simp only [List.nil_append, List.append_nil]; first | exact k25 _ | exact k38 _ | exact k39 _ | exact k40 _ | exact k41 _)); simp only [put_mk, put_no, retK_ret, retK_pan])
      | (apply WO1.ef; (focus (exact rfl)); (focus (exact payE)); simp only [put_mk, put_no, retK_ret, retK_pan])
      | (simp only [thenQ_pan, blockQ_pan, endR_pan, true_and])
      | (refine W.ret ?_; simp only [thenQ_ret, blockQ_ret, endR_ret, true_and])
      | (refine W.skip ?_; simp only [thenQ_norm, blockQ_norm, endR_norm, true_and])
      | (refine W.exit ?_; simp only [thenQ_exit, blockQ_same, blockQ_other, Nat.reduceBEq, thenQ_norm, blockQ_norm])
      | (refine W.condT ?_ ?_; (focus (exact payD)))
      | (refine W.condF ?_ ?_; (focus (exact payD)))
      | (apply W.condB; (focus (exact payR)); refine ⟨fun hh => ?_, fun hh => ?_⟩))
          all_goals simp only [resV_def (X := dX c6) Tryz.func6, Tryz.results6, resultsV, resultV, go_sem, *, Nat.reduceLT, Int.reduceEq, Int.reduceBEq, Int.reduceLE, Int.reduceLT, Nat.reduceAdd, Nat.reduceBEq, Nat.reduceEqDiff, reduceIte, Nat.reduceLeDiff, Nat.reduceMul, Nat.reduceSub, reduceCtorEq, frzRes, dFrz, frzCells, isRet_ret, tupleOf]
  · have hsl2 : (decide ((st.length : Int) ≤ 6) && decide ((rs.length : Int) ≤ 6)) = false := by simpa using hsl
    have k38 := K38
    rw [hsl2] at k38
    clear hs hr hp1 hp2 hsl hsl2 K38
    refine ClR.walk (c := _) rfl Tryz.func6 rfl (by kernel_rfl) rfl isRet_fail ?_
    simp only [entryEnv, Nat.reduceAdd]
    repeat' (first
      | (refine ⟨⟨trivial, trivial⟩, ?_⟩)
      | (refine ⟨⟨rfl, rfl⟩, ?_⟩)
      | (refine WQ.cons rfl rfl ?_)
      | (refine WT.cons rfl rfl ?_)
      | (refine WQ.nil ?_)
      | (refine WT.nil ?_; simp only [thenQ_norm, blockQ_norm, endR_norm, true_and])
      | (apply WQ.alloc; (focus (exact rfl)); (focus (exact rfl)); (focus (exact payR)); simp only [put_mk, put_no])
      | refine W.seq ?_
      | refine W.region ?_
      | refine W.block ?_
      | refine W.scope ?_
      | refine WO.cons ?_
      | (refine WO.nil ?_; simp only [thenQ_norm, blockQ_norm, endR_norm, true_and])
      | (apply WO1.rd; (focus (exact payR)); (focus (exact rfl)); simp only [put_mk, put_no, retK_ret, retK_pan])
      | (refine WO1.gyes (b := true) rfl rfl ?_ rfl ?_; (focus (exact payD)))
      | (refine WO1.gno (b := true) rfl rfl ?_ rfl ?_; (focus (exact payD)); simp only [put_mk, put_no, retK_ret, retK_pan])
      | (refine WO1.gyes (b := false) rfl rfl ?_ rfl ?_; (focus (exact payD)))
      | (refine WO1.gno (b := false) rfl rfl ?_ rfl ?_; (focus (exact payD)); simp only [put_mk, put_no, retK_ret, retK_pan])
      | (apply WO1.gsplit; (focus (exact rfl)); (focus (exact rfl)); (focus (exact payR)); refine ⟨fun hh => ?_, fun hh => ?_⟩ <;> try simp only [Bool.not_true, Bool.not_false, put_mk, put_no] at hh ⊢)
      | (apply WO1.call; (focus (exact payR)); (focus (exact payR)); (focus (simp only [List.nil_append, List.append_nil]; first | exact k25 _ | exact k38 _)); simp only [put_mk, put_no, retK_ret, retK_pan])
      | (apply WO1.ef; (focus (exact rfl)); (focus (exact payE)); simp only [put_mk, put_no, retK_ret, retK_pan])
      | (simp only [thenQ_pan, blockQ_pan, endR_pan, true_and])
      | (refine W.ret ?_; simp only [thenQ_ret, blockQ_ret, endR_ret, true_and])
      | (refine W.skip ?_; simp only [thenQ_norm, blockQ_norm, endR_norm, true_and])
      | (refine W.exit ?_; simp only [thenQ_exit, blockQ_same, blockQ_other, Nat.reduceBEq, thenQ_norm, blockQ_norm])
      | (refine W.condT ?_ ?_; (focus (exact payD)))
      | (refine W.condF ?_ ?_; (focus (exact payD)))
      | (apply W.condB; (focus (exact payR)); refine ⟨fun hh => ?_, fun hh => ?_⟩))
    all_goals simp only [resV_def (X := dX c6) Tryz.func6, Tryz.results6, resultsV, resultV, go_sem, *, Nat.reduceLT, Int.reduceEq, Int.reduceBEq, Int.reduceLE, Int.reduceLT, Nat.reduceAdd, Nat.reduceBEq, Nat.reduceEqDiff, reduceIte, Nat.reduceLeDiff, Nat.reduceMul, Nat.reduceSub, reduceCtorEq, frzRes, dFrz, frzCells, isRet_ret, tupleOf]
end Go.AM
set_option linter.unusedSimpArgs false
set_option linter.unusedVariables false
set_option linter.unusedSectionVars false
set_option maxRecDepth 100000
namespace Go.AM
open Go Go.Proofs
variable [Keep]
theorem c6_sound (hT : TabK Tryz.prog) : Sound (dX c6) := dX_sound (fun f g h => by
  unfold c6 at h
  split at h
  · cases h; exact F38
  · cases h; exact F39
  · cases h; exact F40
  · cases h; exact F41
  · cases h; exact F42
  · exact (c25_sound hT).intr f g h)
theorem ag48 : isAggT Tryz.prog 48 = true := by simp [isAggT, Tryz.underlying48]
theorem ag51 : isAggT Tryz.prog 51 = true := by simp [isAggT, Tryz.underlying51]
theorem ag95 : isAggT Tryz.prog 95 = true := by simp [isAggT, Tryz.underlying95]
theorem Sh.sp {n : Nat} {xs : List AV} (h : Sh Tryz.prog (n + 2) 48 xs) : ∃ p : Sp, xs = [.int .i64 p.lo, .int .i64 p.hi] := by
  obtain ⟨x, y, rfl, h1, x2, y2, rfl, h2, rfl⟩ := Sh.struct Tryz.underlying48 h
  obtain ⟨a, rfl⟩ := Sh.i64 h1
  obtain ⟨b, rfl⟩ := Sh.i64 h2
  exact ⟨⟨a, b⟩, rfl⟩
theorem Sh.rdg {n : Nat} {xs : List AV} (h : Sh Tryz.prog (n + 2) 95 xs) : ∃ p : Rdg, xs = [.int .i64 p.b, .int .i64 p.x, .int .i64 p.y, .int .i64 p.err] := by
  obtain ⟨x, y, rfl, h1, x2, y2, rfl, h2, x3, y3, rfl, h3, x4, y4, rfl, h4, rfl⟩ := Sh.struct Tryz.underlying95 h
  obtain ⟨a, rfl⟩ := Sh.i64 h1
  obtain ⟨b, rfl⟩ := Sh.i64 h2
  obtain ⟨c, rfl⟩ := Sh.i64 h3
  obtain ⟨d, rfl⟩ := Sh.i64 h4
  exact ⟨⟨a, b, c, d⟩, rfl⟩
theorem Sh.rdgs {n : Nat} {xs : List AV} (h : Sh Tryz.prog (n + 3) 49 xs) : ∃ (a : AV) (l : List Rdg), xs = [a] ∧ isSl a (l.map rdgC.enc) :=
  Sh.slice rdgC Tryz.underlying49 (fun xs h => by
    obtain ⟨p, rfl⟩ := Sh.rdg h
    exact ⟨p, by rw [ag95]; rfl⟩) h
theorem Sh.mach {n : Nat} {xs : List AV} (h : Sh Tryz.prog (n + 4) 51 xs) : ∃ (sa ra : AV) (cx cy wx wy : Sp) (st : List Pt) (rs : List Rdg),
    xs = [sa, .int .i64 cx.lo, .int .i64 cx.hi, .int .i64 cy.lo, .int .i64 cy.hi, .int .i64 wx.lo, .int .i64 wx.hi, .int .i64 wy.lo, .int .i64 wy.hi, ra] ∧ isSl sa (st.map ptC.enc) ∧ isSl ra (rs.map rdgC.enc) := by
  obtain ⟨x1, y1, rfl, h1, x2, y2, rfl, h2, x3, y3, rfl, h3, x4, y4, rfl, h4, x5, y5, rfl, h5, x6, y6, rfl, h6, rfl⟩ := Sh.struct Tryz.underlying51 h
  obtain ⟨sa, st, rfl, hs⟩ := Sh.pts h1
  obtain ⟨cx, rfl⟩ := Sh.sp h2
  obtain ⟨cy, rfl⟩ := Sh.sp h3
  obtain ⟨wx, rfl⟩ := Sh.sp h4
  obtain ⟨wy, rfl⟩ := Sh.sp h5
  obtain ⟨ra, rs, rfl, hr⟩ := Sh.rdgs h6
  exact ⟨sa, ra, cx, cy, wx, wy, st, rs, rfl, hs, hr⟩
end Go.AM
namespace Go.Proofs.YtlhcjccaimmhgaaGreatDoor
open Go Go.AM Go.ChangeShapes Go.WideShapes Go.ChangeAt Go.RowKit
theorem law6 [Keep] (hT : TabK Tryz.prog) (avs : List AV) (h : ArgsOk Tryz.prog Tryz.f6.params.toList avs) : ∃ X, X.P = Tryz.prog ∧ Sound X ∧ ∃ h', Cl X 6 avs emptyHp (.ret (.bool true) h' none) := by
  rw [Tryz.params6] at h
  rcases h with _ | ⟨k1, _ | ⟨k2, _ | _⟩⟩
  obtain ⟨sa, ra, cx, cy, wx, wy, st, rs, rfl, hs, hr⟩ := Sh.mach k1
  obtain ⟨n, rfl⟩ := Sh.i64 k2
  rw [ag51, ag3]
  exact ⟨dX c6, rfl, c6_sound hT, (T6 sa ra cx cy wx wy st rs n hs hr).gives⟩
theorem drillKnowns_lifted (os : Os) (started : os.Started) (H : Type) (enc : TypeId × Value → H) :
    ReturnsInHanded {} Tryz.checked os 6 .any (fun w args => (Rows.drillKnownsSpec.pre enc Tryz.prog Tryz.f6 Rows.drillKnownsRow.domain false w args ∧ laidMetH Tryz.prog laidL w) ∧ sizedMet enc Tryz.prog Tryz.f6 (OpenSpec.ofChange Rows.drillKnownsSpec) false w args)
      (Rows.drillKnownsSpec.post enc Tryz.prog Tryz.f6 false true false false) := by
  refine returnsInHanded_of_change_and (C := Tryz.checked) (X := fun w _ => laidMetH Tryz.prog laidL w) (fun _ _ _ hh h => h.of_heap hh) own started (by kernel_rfl) Tryz.func6
    (ChangeSpec.witness_shaped (enc := enc) (C := Tryz.checked) (os := os) (X := fun w _ => laidMetH Tryz.prog laidL w) false (World.laidAll Tryz.prog os laidL) #[.agg #[.slice none 0 0, .int .i64 0, .int .i64 0, .int .i64 0, .int .i64 0, .int .i64 0, .int .i64 0, .int .i64 0, .int .i64 0, .slice none 0 0], .int .i64 0] 8 (World.laidAll_os _ _ _)
      (World.shaped_of_ZipB (by kernel_rfl) (by kernel_rfl)) (by kernel_rfl) (by kernel_rfl) (by kernel_rfl)
      (by rw [MakeChecks.laidMetH_plain _ _ _ (by kernel_rfl)]; exact laidMet_laidAll _ (by kernel_rfl) (by kernel_rfl))) ?_
  intro W base args ds gs before hval hW _ _ hL _
  exact lawHolds Tryz.func6 (by kernel_rfl) rfl (fun ds hd => by
    match ds, hd with
    | [d1, d2], _ => rfl) (by rw [Tryz.params6]; intro t ht; simp at ht; rcases ht with rfl | rfl <;> kernel_rfl) (by rw [Tryz.params6]; intro t ht; simp at ht; rcases ht with rfl | rfl <;> exact ⟨by kernel_rfl, of_decide_eq_true (by kernel_rfl)⟩)
    (fun hT avs h => law6 hT avs h) W base args ds gs before hval hW hL
theorem in6 : (Rows.drillKnownsRow.inPlace == Tryz.prog.inPlace 6) = true := by kernel_rfl
theorem unf6 : (Rows.drillKnownsRow.unfollowed == Tryz.prog.unfollowed 6) = true := by kernel_rfl
theorem rec6 : (Rows.drillKnownsRow.recurses == Tryz.prog.recurses 6) = true := by kernel_rfl
theorem nam6 : (Rows.drillKnownsRow.named == Tryz.prog.varsNamed 6) = true := by kernel_rfl
theorem closed6 : joinedFacts Tryz.prog 6 Tryz.f6 Rows.drillKnownsSpec Rows.drillKnownsRow = true := by
  unfold joinedFacts
  rw [enter_ok, lifts_ok, make_ok]
  repeat' (with_reducible apply and_mk)
  all_goals (first | with_reducible exact laidOut | with_reducible exact rowed | with_reducible exact in6 | with_reducible exact unf6 | with_reducible exact rec6 | with_reducible exact nam6 | kernel_rfl)
theorem drillKnowns_holds : Rows.DrillKnownsSaid :=
  OpenClaim.holds_of_wide 6 Tryz.f6 rfl rfl rfl rfl rfl rfl rfl ⟨rfl, rfl, rfl, rfl, rfl⟩ rfl rfl rfl rfl rfl (by kernel_rfl) Tryz.func6 closed6
    (of_decide_eq_true (by kernel_rfl)) (by unfold Func.isWrapper; rw [if_neg (of_decide_eq_false (by kernel_rfl))]; exact ⟨rfl, rfl⟩)
    (fun os started H enc _ => drillKnowns_lifted os started H enc)
theorem goes6 : false = Rows.drillKnownsRow.goesBy Tryz.prog := by kernel_rfl
theorem drillKnowns_card : Rows.DrillKnownsCardSaid :=
  Claim7.holds_tied_plain_at .later [] [.data, .data, .data] true (true, "b61a08fa8ce36e10ae208529fc07d9da226449fa0c1a03ee5c8317728ea357ba") true drillKnowns_holds (fun _ h => by cases h) (by kernel_rfl) (fun _ h => by cases h) drillKnowns_row_tie rfl ⟨rfl, rfl⟩ main_ok rfl
    (fun f fn hf hfn => by
      obtain rfl : f = 6 := Option.some.inj ((show Tryz.prog.funcNamed "nacre/nacrelaw02.DrillKnowns" = some 6 by kernel_rfl).symm.trans hf) |>.symm
      obtain rfl : fn = Tryz.f6 := (Option.some.inj (Tryz.func6.symm.trans hfn)).symm
      exact ⟨looks_ok, fun j t ht => by
        rw [Tryz.params6] at ht
        have hm : t ∈ [51, 3] := by simpa using Array.mem_of_getElem? ht
        have hall : ([51, 3].all fun u => !Tryz.prog.wantsStandIn u) = true := by kernel_rfl
        exact (show Tryz.prog.wantsStandIn t = false by simpa using List.all_eq_true.1 hall t hm)⟩)
    goes6
end Go.Proofs.YtlhcjccaimmhgaaGreatDoor
