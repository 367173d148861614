/-
  What the laws of this layer share.
-/
import Derived.Test.YtlhcjccaimmhgaaGreatDoorLib
import Derived.Test.YtlhcjccaimmhgaaGreatDoorOpen
import Derived.Test.YtlhcjccaimmhgaaGreatDoorKnown
set_option linter.unusedSectionVars false
set_option linter.unusedVariables false
set_option linter.unusedSimpArgs false
set_option maxRecDepth 100000
namespace Go.AM
open Go Go.Proofs
variable [Keep]
attribute [local irreducible] W WO WO1 WD WQ WT thenQ blockQ endR isRet retK Cl ClR
theorem allB_pts (l : List Pt) : allB l 0 80 = pointsB l 0 4 80 := by
  unfold allB pointsB
  rw [Bool.and_comm]
  congr 1
  rw [List.not_any_eq_all_not]
  congr 1
  funext p
  simp
theorem turnP_R {turn : Int} (h : inB turn 0 7 = true) (p : Pt) : turnP turn p = turnR p turn := by
  simp only [inB, Bool.and_eq_true, decide_eq_true_eq] at h
  unfold turnP turnR
  by_cases h4 : turn < 4
  · rw [if_pos h4, if_neg (by omega)]
    have : turn.tmod 4 = turn := Int.tmod_eq_of_lt (by omega) h4
    rw [this]
  · have hw : w64 (turn - 4) = turn - 4 := wrap_small (by omega) (by omega)
    have : turn.tmod 4 = turn - 4 := by
      rw [Int.tmod_eq_emod_of_nonneg (by omega)]
      omega
    rw [if_neg h4, if_pos (by omega), hw, this]
    rfl
def c25 (c : FuncId → Option (List AV → Heap → Option (AV × Heap))) : FuncId → Option (List AV → Heap → Option (AV × Heap))
  | 25 => some (pureFn sp25)
  | f => c f
theorem K25 {X : Ctx} (hX : X.intr 25 = some (pureFn sp25)) (h : Heap) : Cl X 25 [] h (.ret (.bool true) h none) := Cl.intr hX rfl
set_option maxHeartbeats 1000000 in
theorem T3 {a : AV} {l : List Pt} (turn : Int) (ha : isSl a (l.map ptC.enc)) : ClR (dX (c25 cK)) 3 [a, .int .i64 turn] emptyHp (isRet (.bool true)) := by
  have hlen : lenS a = some l.length := by rw [ha.len, List.length_map]
  have hout := ha.out
  have HA := Lib.hid ha
  have k25 : ∀ h, Cl (dX (c25 cK)) 25 [] h (.ret (.bool true) h none) := fun h => K25 rfl h
  refine ClR.walk (c := _) rfl Tryz.func3 rfl (by kernel_rfl) rfl isRet_fail ?_
  simp only [entryEnv, Nat.reduceAdd]
  by_cases h6 : (l.length : Int) > 6
  · have hd : decide ((l.length : Int) > 6) = true := by simpa using h6
    clear ha h6
    repeat' (first | (refine ⟨⟨trivial, trivial⟩, ?_⟩) | (refine ⟨⟨rfl, rfl⟩, ?_⟩) | (refine WQ.cons rfl rfl ?_) | (refine WT.cons rfl rfl ?_) | (refine WQ.nil ?_) | (refine WT.nil ?_; simp only [tN, bN, eN, true_and]) | (apply WQ.alloc; exact rfl; exact rfl; exact payR; simp only [pM, pN]) | refine W.seq ?_ | refine W.region ?_ | refine W.block ?_ | refine W.scope ?_ | refine WO.cons ?_ | (refine WO.nil ?_; simp only [tN, bN, eN, true_and]) | (apply WO1.rd; exact payR; exact rfl; simp only [pM, pN, rR, rP]) | (refine WO1.gyes (b := true) rfl rfl ?_ rfl ?_; exact payD) | (refine WO1.gno (b := true) rfl rfl ?_ rfl ?_; exact payD; simp only [pM, pN, rR, rP]) | (refine WO1.gyes (b := false) rfl rfl ?_ rfl ?_; exact payD) | (refine WO1.gno (b := false) rfl rfl ?_ rfl ?_; exact payD; simp only [pM, pN, rR, rP]) | (apply WO1.gsplit; exact rfl; exact rfl; exact payR; refine ⟨fun hh => ?_, fun hh => ?_⟩ <;> try simp only [Bool.not_true, Bool.not_false, pM, pN] at hh ⊢) | (apply WO1.call; exact payR; exact payR; (focus (simp only [List.nil_append, List.append_nil]; first | exact k25 _)); simp only [pM, pN, rR, rP]) | (apply WO1.ef; exact rfl; exact payE; simp only [pM, pN, rR, rP]) | (simp only [tP, bP, eP, true_and]) | (refine W.ret ?_; simp only [tR, bR, eR, true_and]) | (refine W.skip ?_; simp only [tN, bN, eN, true_and]) | (refine W.exit ?_; simp only [tX, bS, bO, Nat.reduceBEq, tN, bN]) | (refine W.condT ?_ ?_; exact payD) | (refine W.condF ?_ ?_; exact payD) | (apply W.condB; exact payR; refine ⟨fun hh => ?_, fun hh => ?_⟩))
    all_goals simp only [resV_def (X := dX (c25 cK)) Tryz.func3, Tryz.results3, resultsV, resultV, go_sem, *, Nat.reduceLT, Int.reduceEq, Int.reduceBEq, Int.reduceLE, Int.reduceLT, Nat.reduceAdd, Nat.reduceBEq, Nat.reduceEqDiff, reduceIte, Nat.reduceLeDiff, Nat.reduceMul, Nat.reduceSub, reduceCtorEq, frzRes, dFrz, frzCells, isRet_ret, tupleOf]
  · have hd : decide ((l.length : Int) > 6) = false := by simpa using h6
    have hmax : l.length ≤ maxL := by unfold maxL; omega
    have hsl : slV ptC a = some l := slV_mk ha hmax
    have K26' : ∀ h, Cl (dX (c25 cK)) 26 [a, .int .i64 turn] h (.ret (turnF l turn) h none) := fun h => K26 rfl a l turn hsl h
    have k27 : ∀ h, Cl (dX (c25 cK)) 27 [.int .i64 turn] h (.ret (.bool (inB turn 0 7)) h none) := fun h => K27 rfl turn h
    have k28 : ∀ h, Cl (dX (c25 cK)) 28 [a, .int .i64 0, .int .i64 4, .int .i64 80] h (.ret (.bool (pointsB l 0 4 80)) h none) := fun h => K28 rfl a l 0 4 80 hsl h
    by_cases hin : inB turn 0 7 = true
    · by_cases hpt : pointsB l 0 4 80 = true
      · have hres : turnF l turn = .tuple [slN ((l.map (turnR · turn)).map ptC.enc), .int .i64 0] := by
          unfold turnF
          rw [allB_pts, hin, hpt]
          simp only [Bool.and_self, if_true]
          rw [List.map_congr_left (fun p _ => turnP_R hin p)]
        have hz0 : (((0 : Nat) : Int) == 0) = true := rfl
        have k26 := K26'
        rw [hres] at k26
        have k30 : ∀ h, Cl (dX (c25 cK)) 30 [a, .int .i64 turn] h (.ret (slN ((l.map (turnR · turn)).map ptC.enc)) h none) := fun h => K30 rfl a l turn hsl h
        have hsN : slV ptC (slN ((l.map (turnR · turn)).map ptC.enc)) = some (l.map (turnR · turn)) := slV_slN (by simpa using hmax)
        have hoN := sl_out hsN
        have hl2 : (l.map (turnR · turn)).length ≤ 32768 := by rw [List.length_map]; omega
        have k29 : ∀ h, Cl (dX (c25 cK)) 29 [slN ((l.map (turnR · turn)).map ptC.enc), slN ((l.map (turnR · turn)).map ptC.enc)] h (.ret (.bool true) h none) := fun h => by
          have := K29 (X := dX (c25 cK)) rfl _ _ _ _ hsN hsN hl2 hl2 h
          simpa using this
        clear ha h6 hres K26' hsl hsN hl2
        generalize slN ((l.map (turnR · turn)).map ptC.enc) = u at *
        repeat' (first | (refine ⟨⟨trivial, trivial⟩, ?_⟩) | (refine ⟨⟨rfl, rfl⟩, ?_⟩) | (refine WQ.cons rfl rfl ?_) | (refine WT.cons rfl rfl ?_) | (refine WQ.nil ?_) | (refine WT.nil ?_; simp only [tN, bN, eN, true_and]) | (apply WQ.alloc; exact rfl; exact rfl; exact payR; simp only [pM, pN]) | refine W.seq ?_ | refine W.region ?_ | refine W.block ?_ | refine W.scope ?_ | refine WO.cons ?_ | (refine WO.nil ?_; simp only [tN, bN, eN, true_and]) | (apply WO1.rd; exact payR; exact rfl; simp only [pM, pN, rR, rP]) | (refine WO1.gyes (b := true) rfl rfl ?_ rfl ?_; exact payD) | (refine WO1.gno (b := true) rfl rfl ?_ rfl ?_; exact payD; simp only [pM, pN, rR, rP]) | (refine WO1.gyes (b := false) rfl rfl ?_ rfl ?_; exact payD) | (refine WO1.gno (b := false) rfl rfl ?_ rfl ?_; exact payD; simp only [pM, pN, rR, rP]) | (apply WO1.gsplit; exact rfl; exact rfl; exact payR; refine ⟨fun hh => ?_, fun hh => ?_⟩ <;> try simp only [Bool.not_true, Bool.not_false, pM, pN] at hh ⊢) | (apply WO1.call; exact payR; exact payR; (focus (simp only [List.nil_append, List.append_nil]; first | exact k25 _ | exact k26 _ | exact k27 _ | exact k28 _ | exact k29 _ | exact k30 _)); simp only [pM, pN, rR, rP]) | (apply WO1.ef; exact rfl; exact payE; simp only [pM, pN, rR, rP]) | (simp only [tP, bP, eP, true_and]) | (refine W.ret ?_; simp only [tR, bR, eR, true_and]) | (refine W.skip ?_; simp only [tN, bN, eN, true_and]) | (refine W.exit ?_; simp only [tX, bS, bO, Nat.reduceBEq, tN, bN]) | (refine W.condT ?_ ?_; exact payD) | (refine W.condF ?_ ?_; exact payD) | (apply W.condB; exact payR; refine ⟨fun hh => ?_, fun hh => ?_⟩))
        all_goals simp only [resV_def (X := dX (c25 cK)) Tryz.func3, Tryz.results3, resultsV, resultV, go_sem, *, Nat.reduceLT, Int.reduceEq, Int.reduceBEq, Int.reduceLE, Int.reduceLT, Nat.reduceAdd, Nat.reduceBEq, Nat.reduceEqDiff, reduceIte, Nat.reduceLeDiff, Nat.reduceMul, Nat.reduceSub, reduceCtorEq, frzRes, dFrz, frzCells, isRet_ret, tupleOf]
      · have hpt : pointsB l 0 4 80 = false := by simpa using hpt
        have hres : turnF l turn = .tuple [.nilslice, .int .i64 2] := by simp [turnF, allB_pts, hpt]
        have hz0 : (((0 : Nat) : Int) == 0) = true := rfl
        have k26 := K26'
        rw [hres] at k26
        clear ha h6 hres K26' hsl
        repeat' (first | (refine ⟨⟨trivial, trivial⟩, ?_⟩) | (refine ⟨⟨rfl, rfl⟩, ?_⟩) | (refine WQ.cons rfl rfl ?_) | (refine WT.cons rfl rfl ?_) | (refine WQ.nil ?_) | (refine WT.nil ?_; simp only [tN, bN, eN, true_and]) | (apply WQ.alloc; exact rfl; exact rfl; exact payR; simp only [pM, pN]) | refine W.seq ?_ | refine W.region ?_ | refine W.block ?_ | refine W.scope ?_ | refine WO.cons ?_ | (refine WO.nil ?_; simp only [tN, bN, eN, true_and]) | (apply WO1.rd; exact payR; exact rfl; simp only [pM, pN, rR, rP]) | (refine WO1.gyes (b := true) rfl rfl ?_ rfl ?_; exact payD) | (refine WO1.gno (b := true) rfl rfl ?_ rfl ?_; exact payD; simp only [pM, pN, rR, rP]) | (refine WO1.gyes (b := false) rfl rfl ?_ rfl ?_; exact payD) | (refine WO1.gno (b := false) rfl rfl ?_ rfl ?_; exact payD; simp only [pM, pN, rR, rP]) | (apply WO1.gsplit; exact rfl; exact rfl; exact payR; refine ⟨fun hh => ?_, fun hh => ?_⟩ <;> try simp only [Bool.not_true, Bool.not_false, pM, pN] at hh ⊢) | (apply WO1.call; exact payR; exact payR; (focus (simp only [List.nil_append, List.append_nil]; first | exact k25 _ | exact k26 _ | exact k27 _ | exact k28 _)); simp only [pM, pN, rR, rP]) | (apply WO1.ef; exact rfl; exact payE; simp only [pM, pN, rR, rP]) | (simp only [tP, bP, eP, true_and]) | (refine W.ret ?_; simp only [tR, bR, eR, true_and]) | (refine W.skip ?_; simp only [tN, bN, eN, true_and]) | (refine W.exit ?_; simp only [tX, bS, bO, Nat.reduceBEq, tN, bN]) | (refine W.condT ?_ ?_; exact payD) | (refine W.condF ?_ ?_; exact payD) | (apply W.condB; exact payR; refine ⟨fun hh => ?_, fun hh => ?_⟩))
        all_goals simp only [resV_def (X := dX (c25 cK)) Tryz.func3, Tryz.results3, resultsV, resultV, go_sem, *, Nat.reduceLT, Int.reduceEq, Int.reduceBEq, Int.reduceLE, Int.reduceLT, Nat.reduceAdd, Nat.reduceBEq, Nat.reduceEqDiff, reduceIte, Nat.reduceLeDiff, Nat.reduceMul, Nat.reduceSub, reduceCtorEq, frzRes, dFrz, frzCells, isRet_ret, tupleOf]
    · have hin : inB turn 0 7 = false := by simpa using hin
      have hres : turnF l turn = .tuple [.nilslice, .int .i64 2] := by simp [turnF, hin]
      have hz0 : (((0 : Nat) : Int) == 0) = true := rfl
      have k26 := K26'
      rw [hres] at k26
      clear ha h6 hres K26' hsl
      repeat' (first | (refine ⟨⟨trivial, trivial⟩, ?_⟩) | (refine ⟨⟨rfl, rfl⟩, ?_⟩) | (refine WQ.cons rfl rfl ?_) | (refine WT.cons rfl rfl ?_) | (refine WQ.nil ?_) | (refine WT.nil ?_; simp only [tN, bN, eN, true_and]) | (apply WQ.alloc; exact rfl; exact rfl; exact payR; simp only [pM, pN]) | refine W.seq ?_ | refine W.region ?_ | refine W.block ?_ | refine W.scope ?_ | refine WO.cons ?_ | (refine WO.nil ?_; simp only [tN, bN, eN, true_and]) | (apply WO1.rd; exact payR; exact rfl; simp only [pM, pN, rR, rP]) | (refine WO1.gyes (b := true) rfl rfl ?_ rfl ?_; exact payD) | (refine WO1.gno (b := true) rfl rfl ?_ rfl ?_; exact payD; simp only [pM, pN, rR, rP]) | (refine WO1.gyes (b := false) rfl rfl ?_ rfl ?_; exact payD) | (refine WO1.gno (b := false) rfl rfl ?_ rfl ?_; exact payD; simp only [pM, pN, rR, rP]) | (apply WO1.gsplit; exact rfl; exact rfl; exact payR; refine ⟨fun hh => ?_, fun hh => ?_⟩ <;> try simp only [Bool.not_true, Bool.not_false, pM, pN] at hh ⊢) | (apply WO1.call; exact payR; exact payR; (focus (simp only [List.nil_append, List.append_nil]; first | exact k25 _ | exact k26 _ | exact k27 _ | exact k28 _)); simp only [pM, pN, rR, rP]) | (apply WO1.ef; exact rfl; exact payE; simp only [pM, pN, rR, rP]) | (simp only [tP, bP, eP, true_and]) | (refine W.ret ?_; simp only [tR, bR, eR, true_and]) | (refine W.skip ?_; simp only [tN, bN, eN, true_and]) | (refine W.exit ?_; simp only [tX, bS, bO, Nat.reduceBEq, tN, bN]) | (refine W.condT ?_ ?_; exact payD) | (refine W.condF ?_ ?_; exact payD) | (apply W.condB; exact payR; refine ⟨fun hh => ?_, fun hh => ?_⟩))
      all_goals simp only [resV_def (X := dX (c25 cK)) Tryz.func3, Tryz.results3, resultsV, resultV, go_sem, *, Nat.reduceLT, Int.reduceEq, Int.reduceBEq, Int.reduceLE, Int.reduceLT, Nat.reduceAdd, Nat.reduceBEq, Nat.reduceEqDiff, reduceIte, Nat.reduceLeDiff, Nat.reduceMul, Nat.reduceSub, reduceCtorEq, frzRes, dFrz, frzCells, isRet_ret, tupleOf]
end Go.AM
set_option maxRecDepth 100000
namespace Go.AM
open Go Go.Proofs
variable [Keep]
theorem c25_sound (hT : TabK Tryz.prog) : Sound (dX (c25 cK)) := dX_sound (fun f g h => by
  unfold c25 at h
  split at h
  · cases h; exact F25 hT
  · exact (cK_sound hT).intr f g h)
theorem ClR.gives {X : Ctx} {f : FuncId} {args : List AV} {h : Heap} {v : AV} (c : ClR X f args h (isRet v)) : ∃ h', Cl X f args h (.ret v h' none) := by
  unfold ClR at c
  obtain ⟨r, ⟨n, hn⟩, q⟩ := c
  cases r with
  | ret u h' up =>
    cases up with
    | none => rw [isRet_ret] at q; subst q; exact ⟨h', n, hn⟩
    | some p => exact absurd q (by simp [isRet])
  | pan u h' up => exact absurd q (by simp [isRet])
  | fail => exact absurd q (by simp [isRet])
theorem Sh.i64 {n : Nat} {xs : List AV} (h : Sh Tryz.prog (n + 1) 3 xs) : ∃ i, xs = [.int .i64 i] := by
  obtain ⟨i, h, _⟩ := Sh.int Tryz.underlying3 h
  exact ⟨i, h⟩
theorem ag22 : isAggT Tryz.prog 22 = false := by simp [isAggT, Tryz.underlying22]
theorem ag3 : isAggT Tryz.prog 3 = false := by simp [isAggT, Tryz.underlying3]
theorem ag38 : isAggT Tryz.prog 38 = true := by simp [isAggT, Tryz.underlying38]
theorem Sh.pt {n : Nat} {xs : List AV} (h : Sh Tryz.prog (n + 2) 38 xs) : ∃ p : Pt, xs = [.int .i64 p.x, .int .i64 p.y] := by
  have := Sh.struct Tryz.underlying38 h
  obtain ⟨x, y, rfl, h1, x2, y2, rfl, h2, rfl⟩ := this
  obtain ⟨a, rfl⟩ := Sh.i64 h1
  obtain ⟨b, rfl⟩ := Sh.i64 h2
  exact ⟨⟨a, b⟩, rfl⟩
theorem Sh.pts {n : Nat} {xs : List AV} (h : Sh Tryz.prog (n + 3) 22 xs) : ∃ (a : AV) (l : List Pt), xs = [a] ∧ isSl a (l.map ptC.enc) :=
  Sh.slice ptC Tryz.underlying22 (fun xs h => by
    obtain ⟨p, rfl⟩ := Sh.pt h
    exact ⟨p, by rw [ag38]; rfl⟩) h
end Go.AM
