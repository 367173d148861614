/-
  Contracts of functions of this program.
-/
import Derived.Test.YtlhcjccaimmhgaaGreatDoorFnA
import Derived.Test.YtlhcjccaimmhgaaGreatDoorSteps
set_option linter.unusedSectionVars false
set_option linter.unusedVariables false
set_option linter.unusedSimpArgs false
set_option maxRecDepth 100000
namespace Go.AM
open Go Go.Proofs
variable [Keep]
attribute [local irreducible] W WO WO1 WD WQ WT thenQ blockQ endR isRet retK Cl ClR
noncomputable def cI : FuncId → Option (List AV → Heap → Option (AV × Heap))
  | 93 => some (pureFn sp93)
  | 94 => some (flatFn sp94)
  | 95 => some (pureFn sp95)
  | 96 => some (pureFn sp96)
  | 97 => some (pureFn sp97)
  | _ => none
theorem cI_sound : Sound (dX cI) := dX_sound (fun f g h => by
  unfold cI at h
  split at h
  · cases h; exact F93
  · cases h; exact F94
  · cases h; exact F95
  · cases h; exact F96
  · cases h; exact F97
  · cases h)
def sp27 : List AV → Option AV
  | [.int .i64 n] => some (.bool (inB n 0 7))
  | _ => none
theorem F27 : IntrFn Tryz.prog 27 (pureFn sp27) := by
  refine pure_fn (X := dX cI) cI_sound (fun a v h => by unfold sp27 at h; split at h <;> cases h; rfl) ?_
  intro args v h
  unfold sp27 at h
  split at h
  · cases h
    refine ClR.walk (c := _) rfl Tryz.func27 rfl (by kernel_rfl) rfl isRet_fail ?_
    simp only [entryEnv, Nat.reduceAdd]
    repeat' (first | refine Y1 ?_ | refine U7 ?_ | refine U8 ?_ | refine U9 ?_ | refine Y2 ?_ | ((first | refine Y3 ?_ | refine Y8 ?_); simp only [tN, bN, eN, true_and]) | (apply U4; exact Z1; exact rfl; simp only [pM, pN, rR, rP]) | (refine J3 rfl rfl ?_ ?_; exact Z2) | (refine J4 rfl rfl ?_ ?_; exact Z2; simp only [pM, pN, rR, rP]) | (apply U3; exact rfl; exact rfl; exact Z1; refine ⟨fun hh => ?_, fun hh => ?_⟩ <;> try simp only [Bool.not_true, Bool.not_false, pM, pN] at hh ⊢) | (apply U6; exact Z1; exact Z1; (focus (simp only [List.nil_append, List.append_nil]; first | exact K97 rfl _ _ _ _)); simp only [pM, pN, rR, rP]) | (apply U5; exact rfl; exact Z3; simp only [pM, pN, rR, rP]) | (simp only [tP, bP, eP, true_and]) | (refine Y7 ?_; simp only [tR, bR, eR, true_and]) | (refine Y9 ?_; simp only [tX, bS, bO, Nat.reduceBEq, tN, bN]) | (refine Y4 ?_ ?_; exact Z2) | (refine Y5 ?_ ?_; exact Z2) | (apply Y6; exact Z1; refine ⟨fun hh => ?_, fun hh => ?_⟩))
    all_goals simp only [resV_def (X := dX cI) Tryz.func27, Tryz.results27, resultsV, resultV, go_sem, *, Nat.reduceLT, Int.reduceEq, Int.reduceBEq, Int.reduceLE, Int.reduceLT, Nat.reduceAdd, Nat.reduceBEq, Nat.reduceEqDiff, reduceIte, Nat.reduceLeDiff, Nat.reduceMul, Nat.reduceSub, reduceCtorEq, frzRes, dFrz, frzCells, isRet_ret, tupleOf]
  · cases h
def turnP (turn : Int) (p : Pt) : Pt := if turn < 4 then iter quarter turn.toNat p else iter quarter (w64 (turn - 4)).toNat (flipX p)
def turnF (l : List Pt) (turn : Int) : AV := if inB turn 0 7 && allB l 0 80 then .tuple [slN ((l.map (turnP turn)).map ptC.enc), .int .i64 0] else .tuple [.nilslice, .int .i64 2]
def sp26 : List AV → Option AV
  | [a, .int .i64 turn] => (slV ptC a).map fun l => turnF l turn
  | _ => none
theorem p26 : ∀ args v, sp26 args = some v → v.pur = true := by
  intro args v h
  unfold sp26 at h
  split at h
  · simp only [Option.map_eq_some_iff] at h; obtain ⟨l, _, rfl⟩ := h
    unfold turnF
    split
    · simp only [AV.pur, AV.purL, Bool.and_true]; exact slN_pur (enc_pur ptC _)
    · rfl
  · cases h
theorem of_turned {turn : Int} (h : inB turn 0 7 = true) (p : Pt) : ∃ t n, ofV turn = .iface t (.int .i64 n) ∧ turnedV t n p = some (turnP turn p) := by
  simp only [inB, Bool.and_eq_true, decide_eq_true_eq] at h
  by_cases h4 : turn < 4
  · refine ⟨217, turn, by simp [ofV, h4], ?_⟩
    unfold turnedV turnP
    rw [if_pos (by omega), if_pos rfl, if_pos h4]
  · have hw : w64 (turn - 4) = turn - 4 := wrap_small (by omega) (by omega)
    refine ⟨215, turn - 4, by simp [ofV, h4, hw], ?_⟩
    unfold turnedV turnP
    rw [if_pos (by omega), if_neg (by decide), if_pos rfl, if_neg h4, hw]
set_option maxHeartbeats 400000 in
theorem F26 : IntrFn Tryz.prog 26 (pureFn sp26) := by
  refine pure_fn (X := dX cI) cI_sound p26 ?_
  intro args v h
  unfold sp26 at h
  split at h
  · rename_i a turn
    simp only [Option.map_eq_some_iff] at h
    obtain ⟨l, hl, rfl⟩ := h
    have hlen := sl_len hl
    have hout := sl_out hl
    have hmax := sl_max hl
    have HL := Lib.hid hl
    have HF := Lib.hid (show turnF l turn = turnF l turn from rfl)
    clear hl
    refine ClR.walk (c := _) rfl Tryz.func26 rfl (by kernel_rfl) rfl isRet_fail ?_
    simp only [entryEnv, Nat.reduceAdd]
    by_cases hin : inB turn 0 7 = true
    · by_cases hal : allB l 0 80 = true
      · have hres : turnF l turn = .tuple [slN ((l.map (turnP turn)).map ptC.enc), .int .i64 0] := by simp [turnF, hin, hal]
        rw [hres]
        repeat' (first | refine Y1 ?_ | refine U7 ?_ | refine U8 ?_ | refine U9 ?_ | refine Y2 ?_ | ((first | refine Y3 ?_ | refine Y8 ?_); simp only [tN, bN, eN, true_and]) | (apply U4; exact Z1; exact rfl; simp only [pM, pN, rR, rP]) | (refine J3 rfl rfl ?_ ?_; exact Z2) | (refine J4 rfl rfl ?_ ?_; exact Z2; simp only [pM, pN, rR, rP]) | (apply U3; exact rfl; exact rfl; exact Z1; refine ⟨fun hh => ?_, fun hh => ?_⟩ <;> try simp only [Bool.not_true, Bool.not_false, pM, pN] at hh ⊢) | (apply U6; exact Z1; exact Z1; (focus (simp only [List.nil_append, List.append_nil]; first | exact K93 rfl _ _ _ _ | exact K94 rfl _ _ _ _ HL.out _)); simp only [pM, pN, rR, rP]) | (apply U5; exact rfl; exact Z3; simp only [pM, pN, rR, rP]) | (simp only [tP, bP, eP, true_and]) | (refine Y7 ?_; simp only [tR, bR, eR, true_and]) | (refine Y9 ?_; simp only [tX, bS, bO, Nat.reduceBEq, tN, bN]) | (refine Y4 ?_ ?_; exact Z2) | (refine Y5 ?_ ?_; exact Z2) | (apply Y6; exact Z1; refine ⟨fun hh => ?_, fun hh => ?_⟩))
        refine W.loopN l.length (fun k F => ∃ e lm hp u, F = Fr.mk 26 false e lm hp [] none ∧ Blt hp u 2 (((l.take k).map (turnP turn)).map ptC.enc) ∧ e.get 0 = some a ∧ e.get 1 = some (.int .i64 turn) ∧ e.get 6 = some u ∧ e.get 17 = some a ∧ e.get 18 = some (.int .i64 ↑l.length) ∧ e.get 19 = some (.int .i64 ↑k) ∧ k ≤ l.length) ?_ ?_
        · refine ⟨_, _, _, _, rfl, Blt.nil, ?_, ?_, ?_, ?_, ?_, ?_, ?_⟩ <;> simp [go_sem, *]
        rintro k F ⟨e, lm, hp0, u, rfl, hB, h0, h1, h6, h17, h18, h19, hk⟩
        have hbo := hB.out
        by_cases hlt : k < l.length
        · obtain ⟨p, hp⟩ := get_some hlt
          have hix := pts_idx HL.out hp
          have hd : decide ((k : Int) < (l.length : Int)) = true := by simpa using hlt
          have hw := wrap_succ hlt hmax
          have hnx := take_next hp
          have hll : ((((l.take k).map (turnP turn)).map ptC.enc)).length + 1 ≤ most := by
            simp only [List.length_map, List.length_take]
            unfold most; unfold maxL at hmax; omega
          obtain ⟨t, n, ho, HT⟩ := of_turned hin p
          clear hp hin hal hres
          repeat' (first | (apply WO1.append (t := 22) (u := 22) (e := 38) (e' := 38) (sz := 2) (tl := []); (focus assumption); exact Z1; exact rfl; (focus exact Z2); (focus exact Z2); (focus exact Z2); (focus (exact ty_row22)); exact Z1; (focus (intro v hv; simp at hv; rcases hv with rfl | rfl <;> rfl)); (focus (simp; simp at *; omega)); (focus (simp)); (intro v' h' hB' ho' hK'; simp only [pM, pN])) | (apply W.drawQ (id := 7) (l1 := [0, 1, 2, 3, 4, 5]) (l2 := [6, 7]); kernel_rfl; kernel_rfl; kernel_rfl; exact Z4) | (refine ⟨⟨trivial, trivial⟩, ?_⟩) | (refine ⟨⟨rfl, rfl⟩, ?_⟩) | (refine Z5 rfl rfl ?_) | (refine Z8 rfl rfl ?_) | (refine Z6 ?_) | (refine Z9 ?_; simp only [tN, bN, eN, true_and]) | (apply Z7; exact rfl; exact rfl; exact Z1; simp only [pM, pN]) | refine Y1 ?_ | refine U7 ?_ | refine U8 ?_ | refine U9 ?_ | refine Y2 ?_ | ((first | refine Y3 ?_ | refine Y8 ?_); simp only [tN, bN, eN, true_and]) | (apply U4; exact Z1; exact rfl; simp only [pM, pN, rR, rP]) | (refine J3 rfl rfl ?_ ?_; exact Z2) | (refine J4 rfl rfl ?_ ?_; exact Z2; simp only [pM, pN, rR, rP]) | (apply U3; exact rfl; exact rfl; exact Z1; refine ⟨fun hh => ?_, fun hh => ?_⟩ <;> try simp only [Bool.not_true, Bool.not_false, pM, pN] at hh ⊢) | (apply U6; exact Z1; exact Z1; (focus (simp only [List.nil_append, List.append_nil]; first | exact K96 rfl _ _ | exact K95 rfl _ _ _ _ HT _)); simp only [pM, pN, rR, rP]) | (apply U5; exact rfl; exact Z3; simp only [pM, pN, rR, rP]) | (simp only [tP, bP, eP, true_and]) | (refine Y7 ?_; simp only [tR, bR, eR, true_and]) | (refine Y9 ?_; simp only [tX, bS, bO, Nat.reduceBEq, tN, bN]) | (refine Y4 ?_ ?_; exact Z2) | (refine Y5 ?_ ?_; exact Z2) | (apply Y6; exact Z1; refine ⟨fun hh => ?_, fun hh => ?_⟩))
          refine ⟨hlt, _, _, _, v', rfl, ?_, ?_, ?_, ?_, ?_, ?_, ?_, by omega⟩
          · rw [hnx]; simpa [ptC] using hB'
          all_goals exact Z2
        · have hd : decide ((k : Int) < (l.length : Int)) = false := by simpa using hlt
          have hkl : k = l.length := by omega
          subst hkl
          rw [List.take_length] at hB
          obtain ⟨h', hz, hz2, hz1⟩ := hB.freeze
          clear hres
          repeat' (first | (refine ⟨⟨trivial, trivial⟩, ?_⟩) | (refine ⟨⟨rfl, rfl⟩, ?_⟩) | (refine Z5 rfl rfl ?_) | (refine Z8 rfl rfl ?_) | (refine Z6 ?_) | (refine Z9 ?_; simp only [tN, bN, eN, true_and]) | (apply Z7; exact rfl; exact rfl; exact Z1; simp only [pM, pN]) | refine Y1 ?_ | refine U7 ?_ | refine U8 ?_ | refine U9 ?_ | refine Y2 ?_ | ((first | refine Y3 ?_ | refine Y8 ?_); simp only [tN, bN, eN, true_and]) | (apply U4; exact Z1; exact rfl; simp only [pM, pN, rR, rP]) | (refine J3 rfl rfl ?_ ?_; exact Z2) | (refine J4 rfl rfl ?_ ?_; exact Z2; simp only [pM, pN, rR, rP]) | (apply U3; exact rfl; exact rfl; exact Z1; refine ⟨fun hh => ?_, fun hh => ?_⟩ <;> try simp only [Bool.not_true, Bool.not_false, pM, pN] at hh ⊢) | (apply U5; exact rfl; exact Z3; simp only [pM, pN, rR, rP]) | (simp only [tP, bP, eP, true_and]) | (refine Y7 ?_; simp only [tR, bR, eR, true_and]) | (refine Y9 ?_; simp only [tX, bS, bO, Nat.reduceBEq, tN, bN]) | (refine Y4 ?_ ?_; exact Z2) | (refine Y5 ?_ ?_; exact Z2) | (apply Y6; exact Z1; refine ⟨fun hh => ?_, fun hh => ?_⟩))
          all_goals simp only [resV_def (X := dX cI) Tryz.func26, Tryz.results26, resultsV, resultV, go_sem, *, Nat.reduceLT, Int.reduceEq, Int.reduceBEq, Int.reduceLE, Int.reduceLT, Nat.reduceAdd, Nat.reduceBEq, Nat.reduceEqDiff, reduceIte, Nat.reduceLeDiff, Nat.reduceMul, Nat.reduceSub, reduceCtorEq, frzRes, dFrz, frzCells, isRet_ret, tupleOf]
      · have hal : allB l 0 80 = false := by simpa using hal
        have hres : turnF l turn = .tuple [.nilslice, .int .i64 2] := by simp [turnF, hal]
        rw [hres]
        clear hres
        repeat' (first | (refine ⟨⟨trivial, trivial⟩, ?_⟩) | (refine ⟨⟨rfl, rfl⟩, ?_⟩) | (refine Z5 rfl rfl ?_) | (refine Z8 rfl rfl ?_) | (refine Z6 ?_) | (refine Z9 ?_; simp only [tN, bN, eN, true_and]) | (apply Z7; exact rfl; exact rfl; exact Z1; simp only [pM, pN]) | refine Y1 ?_ | refine U7 ?_ | refine U8 ?_ | refine U9 ?_ | refine Y2 ?_ | ((first | refine Y3 ?_ | refine Y8 ?_); simp only [tN, bN, eN, true_and]) | (apply U4; exact Z1; exact rfl; simp only [pM, pN, rR, rP]) | (refine J3 rfl rfl ?_ ?_; exact Z2) | (refine J4 rfl rfl ?_ ?_; exact Z2; simp only [pM, pN, rR, rP]) | (apply U3; exact rfl; exact rfl; exact Z1; refine ⟨fun hh => ?_, fun hh => ?_⟩ <;> try simp only [Bool.not_true, Bool.not_false, pM, pN] at hh ⊢) | (apply U6; exact Z1; exact Z1; (focus (simp only [List.nil_append, List.append_nil]; first | exact K93 rfl _ _ _ _ | exact K94 rfl _ _ _ _ HL.out _)); simp only [pM, pN, rR, rP]) | (apply U5; exact rfl; exact Z3; simp only [pM, pN, rR, rP]) | (simp only [tP, bP, eP, true_and]) | (refine Y7 ?_; simp only [tR, bR, eR, true_and]) | (refine Y9 ?_; simp only [tX, bS, bO, Nat.reduceBEq, tN, bN]) | (refine Y4 ?_ ?_; exact Z2) | (refine Y5 ?_ ?_; exact Z2) | (apply Y6; exact Z1; refine ⟨fun hh => ?_, fun hh => ?_⟩))
        all_goals simp only [resV_def (X := dX cI) Tryz.func26, Tryz.results26, resultsV, resultV, go_sem, *, Nat.reduceLT, Int.reduceEq, Int.reduceBEq, Int.reduceLE, Int.reduceLT, Nat.reduceAdd, Nat.reduceBEq, Nat.reduceEqDiff, reduceIte, Nat.reduceLeDiff, Nat.reduceMul, Nat.reduceSub, reduceCtorEq, frzRes, dFrz, frzCells, isRet_ret, tupleOf]
    · have hin : inB turn 0 7 = false := by simpa using hin
      have hres : turnF l turn = .tuple [.nilslice, .int .i64 2] := by simp [turnF, hin]
      rw [hres]
      clear hres
      repeat' (first | (refine ⟨⟨trivial, trivial⟩, ?_⟩) | (refine ⟨⟨rfl, rfl⟩, ?_⟩) | (refine Z5 rfl rfl ?_) | (refine Z8 rfl rfl ?_) | (refine Z6 ?_) | (refine Z9 ?_; simp only [tN, bN, eN, true_and]) | (apply Z7; exact rfl; exact rfl; exact Z1; simp only [pM, pN]) | refine Y1 ?_ | refine U7 ?_ | refine U8 ?_ | refine U9 ?_ | refine Y2 ?_ | ((first | refine Y3 ?_ | refine Y8 ?_); simp only [tN, bN, eN, true_and]) | (apply U4; exact Z1; exact rfl; simp only [pM, pN, rR, rP]) | (refine J3 rfl rfl ?_ ?_; exact Z2) | (refine J4 rfl rfl ?_ ?_; exact Z2; simp only [pM, pN, rR, rP]) | (apply U3; exact rfl; exact rfl; exact Z1; refine ⟨fun hh => ?_, fun hh => ?_⟩ <;> try simp only [Bool.not_true, Bool.not_false, pM, pN] at hh ⊢) | (apply U6; exact Z1; exact Z1; (focus (simp only [List.nil_append, List.append_nil]; first | exact K93 rfl _ _ _ _ | exact K94 rfl _ _ _ _ HL.out _)); simp only [pM, pN, rR, rP]) | (apply U5; exact rfl; exact Z3; simp only [pM, pN, rR, rP]) | (simp only [tP, bP, eP, true_and]) | (refine Y7 ?_; simp only [tR, bR, eR, true_and]) | (refine Y9 ?_; simp only [tX, bS, bO, Nat.reduceBEq, tN, bN]) | (refine Y4 ?_ ?_; exact Z2) | (refine Y5 ?_ ?_; exact Z2) | (apply Y6; exact Z1; refine ⟨fun hh => ?_, fun hh => ?_⟩))
      all_goals simp only [resV_def (X := dX cI) Tryz.func26, Tryz.results26, resultsV, resultV, go_sem, *, Nat.reduceLT, Int.reduceEq, Int.reduceBEq, Int.reduceLE, Int.reduceLT, Nat.reduceAdd, Nat.reduceBEq, Nat.reduceEqDiff, reduceIte, Nat.reduceLeDiff, Nat.reduceMul, Nat.reduceSub, reduceCtorEq, frzRes, dFrz, frzCells, isRet_ret, tupleOf]
  · cases h
end Go.AM
set_option maxRecDepth 100000
namespace Go.AM
open Go Go.Proofs
variable [Keep]
attribute [local irreducible] W WO WO1 WD WQ WT thenQ blockQ endR isRet retK Cl ClR
structure Sp where
  lo : Int
  hi : Int
  deriving DecidableEq
def spC : Cd Sp where
  enc p := .agg [.int .i64 p.lo, .int .i64 p.hi]
  dec a := match a with | .agg [.int .i64 x, .int .i64 y] => some ⟨x, y⟩ | _ => none
  de _ := rfl
  ed a x h := by split at h <;> cases h; rfl
  pur _ := rfl
theorem sps_idx {a : AV} {l : List Sp} (h : slV spC a = some l) {k : Nat} {p : Sp} (hp : l[k]? = some p) (H : Heap) : indexAddrV Tryz.prog H 146 a (.int .i64 ↑k) = some (.vptr [.int .i64 p.lo, .int .i64 p.hi]) :=
  (slV_is h).1.idx (x := spC.enc p) Tryz.underlying146 ty_lay48 (by simp [hp]) rfl
def interS (a b : Sp) : Sp := ⟨maxV a.lo b.lo, minV a.hi b.hi⟩
def comR (blank : Int) (s : Sp) (l : List Sp) (h : Heap) : COut :=
  if (l.foldl interS s).lo > (l.foldl interS s).hi then .pan (.iface 223 (.agg [.int .i64 blank])) h none else .ret (.agg [.int .i64 (l.foldl interS s).lo, .int .i64 (l.foldl interS s).hi]) h none
set_option maxHeartbeats 400000 in
theorem C191 (c : FuncId → Option (List AV → Heap → Option (AV × Heap))) (hc : c 191 = none) (blank : Int) (s : Sp) (a : AV) (l : List Sp) (ha : slV spC a = some l) (h : Heap) :
    Cl (dX c) 191 [.int .i64 blank, .agg [.int .i64 s.lo, .int .i64 s.hi], a] h (comR blank s l h) := by
  refine ClR.cl ?_
  have hlen := sl_len ha
  have hout := sl_out ha
  have hmax := sl_max ha
  have hne : comR blank s l h ≠ .fail := by unfold comR; split <;> (intro e; cases e)
  refine ClR.walk (c := _) hc Tryz.func191 rfl (by kernel_rfl) rfl (fun e => hne e.symm) ?_
  clear hne
  simp only [entryEnv, Nat.reduceAdd]
  repeat' (first | (apply WO1.panic; exact rfl; (focus (intro cl rd; simp only [go_sem, *, Nat.reduceLT, Int.reduceEq, Int.reduceBEq, Int.reduceLE, Int.reduceLT, Nat.reduceAdd, Nat.reduceBEq, Nat.reduceEqDiff, reduceIte, Nat.reduceLeDiff, Nat.reduceMul, Nat.reduceSub, reduceCtorEq, efV, Fr.panicE]; with_reducible rfl)); simp only [tP, bP, eP, true_and]) | refine Y1 ?_ | refine U7 ?_ | refine U8 ?_ | refine U9 ?_ | refine Y2 ?_ | ((first | refine Y3 ?_ | refine Y8 ?_); simp only [tN, bN, eN, true_and]) | (apply U4; exact Z1; exact rfl; simp only [pM, pN, rR, rP]) | (refine J3 rfl rfl ?_ ?_; exact Z2) | (refine J4 rfl rfl ?_ ?_; exact Z2; simp only [pM, pN, rR, rP]) | (apply U3; exact rfl; exact rfl; exact Z1; refine ⟨fun hh => ?_, fun hh => ?_⟩ <;> try simp only [Bool.not_true, Bool.not_false, pM, pN] at hh ⊢) | (apply U5; exact rfl; exact Z3; simp only [pM, pN, rR, rP]) | (simp only [tP, bP, eP, true_and]) | (refine Y7 ?_; simp only [tR, bR, eR, true_and]) | (refine Y9 ?_; simp only [tX, bS, bO, Nat.reduceBEq, tN, bN]) | (refine Y4 ?_ ?_; exact Z2) | (refine Y5 ?_ ?_; exact Z2) | (apply Y6; exact Z1; refine ⟨fun hh => ?_, fun hh => ?_⟩))
  refine W.loopN l.length (fun k F => ∃ e lm, F = Fr.mk 191 false e lm h [] none ∧ lm.get 7 = some (0, [.int .i64 ((l.take k).foldl interS s).lo, .int .i64 ((l.take k).foldl interS s).hi]) ∧ lm.get 6 = some (0, [.int .i64 0, .int .i64 0]) ∧
    e.get 0 = some (.int .i64 blank) ∧ e.get 6 = some (.lptr 6 0 0) ∧ e.get 7 = some (.lptr 7 0 0) ∧ e.get 11 = some a ∧ e.get 12 = some (.int .i64 ↑l.length) ∧ e.get 13 = some (.int .i64 ↑k) ∧ k ≤ l.length) ?_ ?_
  · refine ⟨_, _, rfl, ?_, ?_, ?_, ?_, ?_, ?_, ?_, ?_, ?_⟩ <;> simp [go_sem, *]
  rintro k F ⟨e, lm, rfl, hl7, hl6, h0, h6, h7, h11, h12, h13, hk⟩
  generalize hP : (l.take k).foldl interS s = P at hl7
  have HP := Lib.hid hP
  clear hP
  by_cases hlt : k < l.length
  · obtain ⟨p, hp⟩ := get_some hlt
    have hix := sps_idx ha hp
    have hd : decide ((k : Int) < (l.length : Int)) = true := by simpa using hlt
    have hw := wrap_succ hlt hmax
    have hnx := take_next hp
    have HN : (l.take (k + 1)).foldl interS s = interS P p := by rw [hnx, List.foldl_append, HP.out]; rfl
    have HNX := Lib.hid HN
    clear ha hp hnx HN
    repeat' (first | (apply WO1.panic; exact rfl; (focus (intro cl rd; simp only [go_sem, *, Nat.reduceLT, Int.reduceEq, Int.reduceBEq, Int.reduceLE, Int.reduceLT, Nat.reduceAdd, Nat.reduceBEq, Nat.reduceEqDiff, reduceIte, Nat.reduceLeDiff, Nat.reduceMul, Nat.reduceSub, reduceCtorEq, efV, Fr.panicE]; with_reducible rfl)); simp only [tP, bP, eP, true_and]) | refine Y1 ?_ | refine U7 ?_ | refine U8 ?_ | refine U9 ?_ | refine Y2 ?_ | ((first | refine Y3 ?_ | refine Y8 ?_); simp only [tN, bN, eN, true_and]) | (apply U4; exact Z1; exact rfl; simp only [pM, pN, rR, rP]) | (refine J3 rfl rfl ?_ ?_; exact Z2) | (refine J4 rfl rfl ?_ ?_; exact Z2; simp only [pM, pN, rR, rP]) | (apply U3; exact rfl; exact rfl; exact Z1; refine ⟨fun hh => ?_, fun hh => ?_⟩ <;> try simp only [Bool.not_true, Bool.not_false, pM, pN] at hh ⊢) | (apply U5; exact rfl; exact Z3; simp only [pM, pN, rR, rP]) | (simp only [tP, bP, eP, true_and]) | (refine Y7 ?_; simp only [tR, bR, eR, true_and]) | (refine Y9 ?_; simp only [tX, bS, bO, Nat.reduceBEq, tN, bN]) | (refine Y4 ?_ ?_; exact Z2) | (refine Y5 ?_ ?_; exact Z2) | (apply Y6; exact Z1; refine ⟨fun hh => ?_, fun hh => ?_⟩))
    refine ⟨hlt, _, _, rfl, ?_, ?_, ?_, ?_, ?_, ?_, ?_, ?_, by omega⟩
    · rw [HNX.out]; simp only [interS, go_sem, *, Nat.reduceLT, Int.reduceEq, Int.reduceBEq, Int.reduceLE, Int.reduceLT, Nat.reduceAdd, Nat.reduceBEq, Nat.reduceEqDiff, reduceIte, Nat.reduceLeDiff, Nat.reduceMul, Nat.reduceSub, reduceCtorEq]
    all_goals exact Z2
  · have hd : decide ((k : Int) < (l.length : Int)) = false := by simpa using hlt
    have hkl : k = l.length := by omega
    have hfo : l.foldl interS s = P := by have := HP.out; rw [hkl, List.take_length] at this; exact this
    have HFO := Lib.hid hfo
    clear hkl hfo ha
    repeat' (first | (apply WO1.panic; exact rfl; (focus (intro cl rd; simp only [go_sem, *, Nat.reduceLT, Int.reduceEq, Int.reduceBEq, Int.reduceLE, Int.reduceLT, Nat.reduceAdd, Nat.reduceBEq, Nat.reduceEqDiff, reduceIte, Nat.reduceLeDiff, Nat.reduceMul, Nat.reduceSub, reduceCtorEq, efV, Fr.panicE]; with_reducible rfl)); simp only [tP, bP, eP, true_and]) | refine Y1 ?_ | refine U7 ?_ | refine U8 ?_ | refine U9 ?_ | refine Y2 ?_ | ((first | refine Y3 ?_ | refine Y8 ?_); simp only [tN, bN, eN, true_and]) | (apply U4; exact Z1; exact rfl; simp only [pM, pN, rR, rP]) | (refine J3 rfl rfl ?_ ?_; exact Z2) | (refine J4 rfl rfl ?_ ?_; exact Z2; simp only [pM, pN, rR, rP]) | (apply U3; exact rfl; exact rfl; exact Z1; refine ⟨fun hh => ?_, fun hh => ?_⟩ <;> try simp only [Bool.not_true, Bool.not_false, pM, pN] at hh ⊢) | (apply U5; exact rfl; exact Z3; simp only [pM, pN, rR, rP]) | (simp only [tP, bP, eP, true_and]) | (refine Y7 ?_; simp only [tR, bR, eR, true_and]) | (refine Y9 ?_; simp only [tX, bS, bO, Nat.reduceBEq, tN, bN]) | (refine Y4 ?_ ?_; exact Z2) | (refine Y5 ?_ ?_; exact Z2) | (apply Y6; exact Z1; refine ⟨fun hh => ?_, fun hh => ?_⟩))
    all_goals first
      | (simp only [resV_def (X := dX c) Tryz.func191, Tryz.results191, resultsV, resultV, go_sem, *, Nat.reduceLT, Int.reduceEq, Int.reduceBEq, Int.reduceLE, Int.reduceLT, Nat.reduceAdd, Nat.reduceBEq, Nat.reduceEqDiff, reduceIte, Nat.reduceLeDiff, Nat.reduceMul, Nat.reduceSub, reduceCtorEq, frzRes, dFrz, frzCells, isRet_ret, tupleOf]; have hfo := HFO.out; simp only [decide_eq_false_iff_not] at hh; simp [isR, comR, hfo, frzRes, dX_frz, dFrz, hh])
      | (have hfo := HFO.out; simp only [decide_eq_true_eq] at hh; simp [isR, comR, hfo, hh])
end Go.AM
set_option maxRecDepth 100000
namespace Go.AM
open Go Go.Proofs
variable [Keep]
attribute [local irreducible] W WO WO1 WD WQ WT thenQ blockQ endR isRet retK Cl ClR
structure Lim where
  b : Int
  lo : Int
  hi : Int
def limC : Cd Lim where
  enc p := .agg [.int .i64 p.b, .int .i64 p.lo, .int .i64 p.hi]
  dec a := match a with | .agg [.int .i64 x, .int .i64 y, .int .i64 z] => some ⟨x, y, z⟩ | _ => none
  de _ := rfl
  ed a x h := by split at h <;> cases h; rfl
  pur _ := rfl
structure Ax where
  chuck : Sp
  wear : Sp
  limits : List Lim
def Lim.sp (m : Lim) : Sp := ⟨m.lo, m.hi⟩
def empS (s : Sp) : Bool := decide (s.lo > s.hi)
def limS (b : Int) : List Lim → Sp → Option Sp
  | [], s => some s
  | m :: r, s => if m.b == b then (if empS (interS s m.sp) then none else limS b r (interS s m.sp)) else limS b r s
def nxtS (ax : Ax) (p : Sp) : Sp := ⟨w64 (p.lo + ax.wear.lo), w64 (p.hi + ax.wear.hi)⟩
def prvS (ax : Ax) (p : Sp) : Sp := ⟨w64 (p.lo - ax.wear.hi), w64 (p.hi - ax.wear.lo)⟩
def startS (ax : Ax) (out : List Sp) (k : Nat) : Sp := if k = 0 then ax.chuck else nxtS ax (out.getD (k - 1) ⟨0, 0⟩)
def fwdS (ax : Ax) : Nat → Option (List Sp)
  | 0 => some []
  | k + 1 => match fwdS ax k with
    | none => none
    | some out => match limS k ax.limits (startS ax out k) with
      | none => none
      | some s => some (out ++ [s])
def bwdS (ax : Ax) : Nat → List Sp → Option (List Sp)
  | 0, out => some out
  | n + 1, out => if empS (interS (out.getD n ⟨0, 0⟩) (prvS ax (out.getD (n + 1) ⟨0, 0⟩))) then none else bwdS ax n (out.set n (interS (out.getD n ⟨0, 0⟩) (prvS ax (out.getD (n + 1) ⟨0, 0⟩))))
def boundsS (ax : Ax) : Option (List Sp) := match fwdS ax 13 with | none => none | some out => bwdS ax 12 out
theorem fwdS_len (ax : Ax) : ∀ (k : Nat) (out : List Sp), fwdS ax k = some out → out.length = k := by
  intro k
  induction k with
  | zero => intro out h; simp [fwdS] at h; subst h; rfl
  | succ k ih =>
    intro out h
    simp only [fwdS] at h
    split at h
    · cases h
    · rename_i o ho
      split at h
      · cases h
      · cases h; simp [ih o ho]
theorem fwdS_stop (ax : Ax) (k : Nat) (h : fwdS ax k = none) : ∀ j, fwdS ax (k + j) = none := by
  intro j
  induction j with
  | zero => exact h
  | succ j ih =>
    show fwdS ax ((k + j) + 1) = none
    simp only [fwdS, ih]
theorem bounds_none (ax : Ax) {k : Nat} {out : List Sp} (hk : k < 13) (ho : fwdS ax k = some out) (hl : limS k ax.limits (startS ax out k) = none) : boundsS ax = none := by
  have : fwdS ax (k + 1) = none := by simp only [fwdS, ho, hl]
  have := fwdS_stop ax _ this (12 - k)
  rw [show k + 1 + (12 - k) = 13 from by omega] at this
  simp only [boundsS, this]
structure RdL (h : Heap) (v : AV) (l : List Lim) : Prop where
  len : lenS v = some l.length
  out : outV (some v) = some v
  max : l.length ≤ maxL
  one : v.cells = [v]
  tup : isTuple v = false
  get : ∀ (k : Nat) (m : Lim), l[k]? = some m → ∀ hp : Heap, (∀ id, id < h.next → hp.get id = h.get id) → ∃ ptr, indexAddrV Tryz.prog hp 226 v (.int .i64 ↑k) = some ptr ∧ ∀ f rnd e lm df up, (Fr.mk f rnd e lm hp df up).mem ptr = some ([.int .i64 m.b, .int .i64 m.lo, .int .i64 m.hi], 0)
def isBnd (ax : Ax) (h : Heap) (r : COut) : Prop := ∃ h', HExt h h' ∧ match boundsS ax with
  | some out => r = .ret (slN (out.map spC.enc)) h' none
  | none => ∃ b : Int, r = .pan (.iface 223 (.agg [.int .i64 b])) h' none
theorem isBnd_fail {ax : Ax} {h : Heap} : ¬ isBnd ax h .fail := by
  rintro ⟨h', _, q⟩
  split at q
  · cases q
  · obtain ⟨b, e⟩ := q; cases e
theorem isBnd_pan {ax : Ax} {h hp : Heap} {b : Int} (e : boundsS ax = none) (hx : h.next ≤ hp.next ∧ ∀ id, id < h.next → hp.get id = h.get id) : isBnd ax h (.pan (.iface 223 (.agg [.int .i64 b])) hp none) := ⟨hp, hx, by rw [e]; exact ⟨b, rfl⟩⟩
theorem limS_cons (b : Int) (m : Lim) (r : List Lim) (s : Sp) : limS b (m :: r) s = if m.b == b then (if empS (interS s m.sp) then none else limS b r (interS s m.sp)) else limS b r s := rfl
theorem limS_nil (b : Int) (s : Sp) : limS b [] s = some s := rfl
theorem comR_pan {b : Int} {s p : Sp} {h : Heap} (he : empS (interS s p) = true) : comR b s [p] h = .pan (.iface 223 (.agg [.int .i64 b])) h none := if_pos (by simpa [empS] using he)
theorem comR_ret {b : Int} {s p : Sp} {h : Heap} (he : empS (interS s p) = false) : comR b s [p] h = .ret (.agg [.int .i64 (interS s p).lo, .int .i64 (interS s p).hi]) h none := if_neg (by simpa [empS] using he)
theorem bwdS_succ (ax : Ax) (n : Nat) (out : List Sp) : bwdS ax (n + 1) out = if empS (interS (out.getD n ⟨0, 0⟩) (prvS ax (out.getD (n + 1) ⟨0, 0⟩))) then none else bwdS ax n (out.set n (interS (out.getD n ⟨0, 0⟩) (prvS ax (out.getD (n + 1) ⟨0, 0⟩)))) := rfl
theorem boundsS_def (ax : Ax) : boundsS ax = match fwdS ax 13 with | none => none | some out => bwdS ax 12 out := rfl
theorem isBnd_ret {ax : Ax} {h hp : Heap} {out : List Sp} (e : boundsS ax = some out) (hs : slN (out.map spC.enc) = .vslice (out.map spC.enc)) (hx : h.next ≤ hp.next ∧ ∀ id, id < h.next → hp.get id = h.get id) : isBnd ax h (.ret (.vslice (out.map spC.enc)) hp none) := ⟨hp, hx, by rw [e]; simp only; rw [hs]⟩
attribute [local irreducible] isBnd boundsS fwdS limS
set_option maxHeartbeats 1600000 in
theorem C157 (c : FuncId → Option (List AV → Heap → Option (AV × Heap))) (hc : c 157 = none) (hc2 : c 191 = none) (ax : Ax) (v : AV) (h : Heap) (hv : RdL h v ax.limits) :
    ClR (dX c) 157 [.agg [.int .i64 ax.chuck.lo, .int .i64 ax.chuck.hi, .int .i64 ax.wear.lo, .int .i64 ax.wear.hi, v]] h (isBnd ax h) := by
  have hlen := hv.len
  have hout := hv.out
  have hmax := hv.max
  have hone := hv.one
  have htup := hv.tup
  have HV := Lib.hid hv
  clear hv
  refine ClR.walk (c := _) hc Tryz.func157 rfl (by kernel_rfl) rfl isBnd_fail ?_
  simp only [entryEnv, Nat.reduceAdd]
  repeat' (first | (apply W.drawQ (id := 7) (l1 := [0, 1, 2, 3, 4, 5, 6, 7, 8, 9, 10, 11, 12, 13, 14, 15, 16, 17, 18, 19, 20]) (l2 := [21]); kernel_rfl; kernel_rfl; kernel_rfl; exact Z4) | (apply W.drawQ (id := 20) (l1 := [0, 1, 2, 3, 4, 5, 6, 7, 8, 9, 10, 11, 12, 13, 14, 15, 16, 17, 18, 19, 20, 21, 22]) (l2 := [23]); kernel_rfl; kernel_rfl; kernel_rfl; exact Z4) | (refine ⟨⟨trivial, trivial⟩, ?_⟩) | (refine ⟨⟨rfl, rfl⟩, ?_⟩) | (refine Z5 rfl rfl ?_) | (refine Z8 rfl rfl ?_) | (refine Z6 ?_) | (refine Z9 ?_; simp only [tN, bN, eN, true_and]) | (apply Z7; exact rfl; exact rfl; exact Z1; simp only [pM, pN]) | refine Y1 ?_ | refine U7 ?_ | refine U8 ?_ | refine U9 ?_ | refine Y2 ?_ | ((first | refine Y3 ?_ | refine Y8 ?_); simp only [tN, bN, eN, true_and]) | (apply U4; exact Z1; exact rfl; simp only [pM, pN, rR, rP]) | (refine J3 rfl rfl ?_ ?_; exact Z2) | (refine J4 rfl rfl ?_ ?_; exact Z2; simp only [pM, pN, rR, rP]) | (apply U3; exact rfl; exact rfl; exact Z1; refine ⟨fun hh => ?_, fun hh => ?_⟩ <;> try simp only [Bool.not_true, Bool.not_false, pM, pN] at hh ⊢) | (apply U5; exact rfl; exact Z3; simp only [pM, pN, rR, rP]) | (simp only [tP, bP, eP, true_and]) | (refine Y7 ?_; simp only [tR, bR, eR, true_and]) | (refine Y9 ?_; simp only [tX, bS, bO, Nat.reduceBEq, tN, bN]) | (refine Y4 ?_ ?_; exact Z2) | (refine Y5 ?_ ?_; exact Z2) | (apply Y6; exact Z1; refine ⟨fun hh => ?_, fun hh => ?_⟩))
  refine W.loopN 13 (fun k F => ∃ e lm hp u out, F = Fr.mk 157 false e lm hp [] none ∧ fwdS ax k = some out ∧ BltN h.next hp u 2 (out.map spC.enc) ∧ (h.next ≤ hp.next ∧ ∀ id, id < h.next → hp.get id = h.get id) ∧
    lm.get 1 = some (0, [.int .i64 ax.chuck.lo, .int .i64 ax.chuck.hi, .int .i64 ax.wear.lo, .int .i64 ax.wear.hi, v]) ∧ e.get 1 = some (.lptr 1 0 0) ∧ e.get 3 = some u ∧ e.get 10 = some (.int .i64 ↑k) ∧ k ≤ 13) ?_ ?_
  · refine ⟨_, _, _, _, [], rfl, ?_, BltN.nil, ⟨Nat.le_refl _, fun _ _ => rfl⟩, ?_, ?_, ?_, ?_, ?_⟩ <;> first | exact Z2 | simp [fwdS, go_sem, *, Nat.reduceLT, Int.reduceEq, Int.reduceBEq, Int.reduceLE, Int.reduceLT, Nat.reduceAdd, Nat.reduceBEq, Nat.reduceEqDiff, reduceIte, Nat.reduceLeDiff, Nat.reduceMul, Nat.reduceSub, reduceCtorEq]
  rintro k F ⟨e, lm, hp, u, out, rfl, hf, hB, hX, hl1, h1, h3, h10, hk⟩
  have hol := fwdS_len ax k out hf
  have hbo := hB.blt.out
  by_cases hlt : k < 13
  · have hd : decide ((k : Int) < 13) = true := by simp; omega
    have HF := Lib.hid hf
    have HOL := Lib.hid hol
    clear hf
    have hst : ∃ s0 : Sp, startS ax out k = s0 ∧ (k = 0 ∧ s0 = ax.chuck ∨ k ≠ 0 ∧ ∃ pv, out[k - 1]? = some pv ∧ s0 = nxtS ax pv) := by
      by_cases hk0 : k = 0
      · exact ⟨_, rfl, .inl ⟨hk0, by simp [startS, hk0]⟩⟩
      · obtain ⟨pv, hpv⟩ := get_some (show k - 1 < out.length by omega)
        exact ⟨_, rfl, .inr ⟨hk0, pv, hpv, by simp [startS, hk0, List.getD, hpv]⟩⟩
    obtain ⟨s0, hs0, hcase⟩ := hst
    have HS := Lib.hid hs0
    clear hs0
    have hnx : fwdS ax (k + 1) = match limS k ax.limits s0 with | none => none | some s => some (out ++ [s]) := by
      simp only [fwdS, HF.out, HS.out]
    have HNX := Lib.hid hnx
    have hbn : limS k ax.limits s0 = none → boundsS ax = none := fun e => bounds_none ax hlt HF.out (by rw [HS.out]; exact e)
    have HBN := Lib.hid hbn
    have hll : (out.map spC.enc).length + 1 ≤ most := by simp only [List.length_map, hol]; unfold most; omega
    clear hnx hbn
    have hw := wrap_succ hlt (by unfold maxL; omega)
    have inner : ∀ (e' : Mp AV) (lm' : Mp (Nat × List AV)) (g : Nat) (Q : Out → Prop), lm'.get 1 = some (0, [.int .i64 ax.chuck.lo, .int .i64 ax.chuck.hi, .int .i64 ax.wear.lo, .int .i64 ax.wear.hi, v]) → lm'.get 5 = some (g, [.int .i64 s0.lo, .int .i64 s0.hi]) →
        e'.get 1 = some (.lptr 1 0 0) → e'.get 3 = some u → e'.get 4 = some (.int .i64 ↑k) → e'.get 5 = some (.lptr 5 g 0) → e'.get 10 = some (.int .i64 ↑k) → e'.get 39 = some v → e'.get 40 = some (.int .i64 ↑ax.limits.length) → e'.get 41 = some (.int .i64 0) → True := fun _ _ _ _ _ _ _ _ _ _ _ _ _ _ => trivial
    clear inner
    rcases hcase with ⟨hk0, hsc⟩ | ⟨hk0, pv, hpv, hsc⟩
    · have hgt : decide ((k : Int) > 0) = false := by simp; omega
      have HSC := Lib.hid hsc
      clear hol hk0 hsc
      repeat' (first | (apply W.drawQ (id := 7) (l1 := [0, 1, 2, 3, 4, 5, 6, 7, 8, 9, 10, 11, 12, 13, 14, 15, 16, 17, 18, 19, 20]) (l2 := [21]); kernel_rfl; kernel_rfl; kernel_rfl; exact Z4) | (apply W.drawQ (id := 20) (l1 := [0, 1, 2, 3, 4, 5, 6, 7, 8, 9, 10, 11, 12, 13, 14, 15, 16, 17, 18, 19, 20, 21, 22]) (l2 := [23]); kernel_rfl; kernel_rfl; kernel_rfl; exact Z4) | (refine ⟨⟨trivial, trivial⟩, ?_⟩) | (refine ⟨⟨rfl, rfl⟩, ?_⟩) | (refine Z5 rfl rfl ?_) | (refine Z8 rfl rfl ?_) | (refine Z6 ?_) | (refine Z9 ?_; simp only [tN, bN, eN, true_and]) | (apply Z7; exact rfl; exact rfl; exact Z1; simp only [pM, pN]) | refine Y1 ?_ | refine U7 ?_ | refine U8 ?_ | refine U9 ?_ | refine Y2 ?_ | ((first | refine Y3 ?_ | refine Y8 ?_); simp only [tN, bN, eN, true_and]) | (apply U4; exact Z1; exact rfl; simp only [pM, pN, rR, rP]) | (refine J3 rfl rfl ?_ ?_; exact Z2) | (refine J4 rfl rfl ?_ ?_; exact Z2; simp only [pM, pN, rR, rP]) | (apply U3; exact rfl; exact rfl; exact Z1; refine ⟨fun hh => ?_, fun hh => ?_⟩ <;> try simp only [Bool.not_true, Bool.not_false, pM, pN] at hh ⊢) | (apply U5; exact rfl; exact Z3; simp only [pM, pN, rR, rP]) | (simp only [tP, bP, eP, true_and]) | (refine Y7 ?_; simp only [tR, bR, eR, true_and]) | (refine Y9 ?_; simp only [tX, bS, bO, Nat.reduceBEq, tN, bN]) | (refine Y4 ?_ ?_; exact Z2) | (refine Y5 ?_ ?_; exact Z2) | (apply Y6; exact Z1; refine ⟨fun hh => ?_, fun hh => ?_⟩))
      all_goals (
        refine W.loopN ax.limits.length (fun j F => ∃ e lm g s, F = Fr.mk 157 false e lm hp [] none ∧ limS k (ax.limits.drop j) s = limS k ax.limits s0 ∧ lm.get 1 = some (0, [.int .i64 ax.chuck.lo, .int .i64 ax.chuck.hi, .int .i64 ax.wear.lo, .int .i64 ax.wear.hi, v]) ∧ lm.get 5 = some (g, [.int .i64 s.lo, .int .i64 s.hi]) ∧
          e.get 1 = some (.lptr 1 0 0) ∧ e.get 3 = some u ∧ e.get 4 = some (.int .i64 ↑k) ∧ e.get 5 = some (.lptr 5 g 0) ∧ e.get 10 = some (.int .i64 ↑k) ∧ e.get 39 = some v ∧ e.get 40 = some (.int .i64 ↑ax.limits.length) ∧ e.get 41 = some (.int .i64 ↑j) ∧ j ≤ ax.limits.length) ?_ ?_
        · refine ⟨_, _, nextGen lm 5, s0, rfl, ?_, ?_, ?_, ?_, ?_, ?_, ?_, ?_, ?_, ?_, ?_, ?_⟩ <;> first | exact Z2 | (have hsc := HSC.out; simp only [hsc, nxtS, w64, go_sem, *, Nat.reduceLT, Int.reduceEq, Int.reduceBEq, Int.reduceLE, Int.reduceLT, Nat.reduceAdd, Nat.reduceBEq, Nat.reduceEqDiff, reduceIte, Nat.reduceLeDiff, Nat.reduceMul, Nat.reduceSub, reduceCtorEq]; done) | simp
        rintro j F ⟨e, lm, g, s, rfl, hls, hl1, hl5, h1, h3, h4, h5, h10, h39, h40, h41, hj⟩
        have HLS := Lib.hid hls
        clear hls hgt
        by_cases hjt : j < ax.limits.length
        · obtain ⟨m, hm⟩ := get_some hjt
          have hdr : ax.limits.drop j = m :: ax.limits.drop (j + 1) := by
            rw [List.drop_eq_getElem_cons hjt]
            rw [List.getElem?_eq_getElem hjt] at hm
            rw [Option.some.inj hm]
          obtain ⟨ptr, hptr, hmem⟩ := HV.out.get j m hm hp hX.2
          have hdj : decide ((j : Int) < (ax.limits.length : Int)) = true := by simpa using hjt
          have hwj := wrap_succ hjt hmax
          have hlsm : (if m.b == ↑k then (if empS (interS s m.sp) then none else limS k (ax.limits.drop (j + 1)) (interS s m.sp)) else limS k (ax.limits.drop (j + 1)) s) = limS k ax.limits s0 := by
            have := HLS.out
            rw [hdr, limS_cons] at this
            exact this
          have HM := Lib.hid hlsm
          clear hm hdr hlsm hd
          by_cases hbl : (m.b == (k : Int)) = true
          · by_cases hem : empS (interS s m.sp) = true
            · have hcl : Cl (dX c) 191 [.int .i64 ↑k, .agg [.int .i64 s.lo, .int .i64 s.hi], .vslice [.agg [.int .i64 m.lo, .int .i64 m.hi]]] hp (.pan (.iface 223 (.agg [.int .i64 ↑k])) hp none) := by
                have q := C191 c hc2 ↑k s (.vslice [.agg [.int .i64 m.lo, .int .i64 m.hi]]) [m.sp] rfl hp
                rw [comR_pan hem] at q
                exact q
              have hbn := HBN.out (by rw [← HM.out, hbl, hem]; rfl)
              have HB2 := Lib.hid hbn
              clear hbn hem
              repeat' (first | (apply U6; exact Z1; exact Z1; (focus (exact hcl)); simp only [pM, pN, rR, rP]) | (refine ⟨⟨trivial, trivial⟩, ?_⟩) | (refine ⟨⟨rfl, rfl⟩, ?_⟩) | (refine Z5 rfl rfl ?_) | (refine Z8 rfl rfl ?_) | (refine Z6 ?_) | (refine Z9 ?_; simp only [tN, bN, eN, true_and]) | (apply Z7; exact rfl; exact rfl; exact Z1; simp only [pM, pN]) | refine Y1 ?_ | refine U7 ?_ | refine U8 ?_ | refine U9 ?_ | refine Y2 ?_ | ((first | refine Y3 ?_ | refine Y8 ?_); simp only [tN, bN, eN, true_and]) | (apply U4; exact Z1; exact rfl; simp only [pM, pN, rR, rP]) | (refine J3 rfl rfl ?_ ?_; exact Z2) | (refine J4 rfl rfl ?_ ?_; exact Z2; simp only [pM, pN, rR, rP]) | (apply U3; exact rfl; exact rfl; exact Z1; refine ⟨fun hh => ?_, fun hh => ?_⟩ <;> try simp only [Bool.not_true, Bool.not_false, pM, pN] at hh ⊢) | (apply U5; exact rfl; exact Z3; simp only [pM, pN, rR, rP]) | (simp only [tP, bP, eP, true_and]) | (refine Y7 ?_; simp only [tR, bR, eR, true_and]) | (refine Y9 ?_; simp only [tX, bS, bO, Nat.reduceBEq, tN, bN]) | (refine Y4 ?_ ?_; exact Z2) | (refine Y5 ?_ ?_; exact Z2) | (apply Y6; exact Z1; refine ⟨fun hh => ?_, fun hh => ?_⟩))
              exact isBnd_pan HB2.out hX
            · have hem : empS (interS s m.sp) = false := by simpa using hem
              have hcl : Cl (dX c) 191 [.int .i64 ↑k, .agg [.int .i64 s.lo, .int .i64 s.hi], .vslice [.agg [.int .i64 m.lo, .int .i64 m.hi]]] hp (.ret (.agg [.int .i64 (interS s m.sp).lo, .int .i64 (interS s m.sp).hi]) hp none) := by
                have q := C191 c hc2 ↑k s (.vslice [.agg [.int .i64 m.lo, .int .i64 m.hi]]) [m.sp] rfl hp
                rw [comR_ret hem] at q
                exact q
              have hnl : limS k (ax.limits.drop (j + 1)) (interS s m.sp) = limS k ax.limits s0 := by rw [← HM.out, hbl, hem]; rfl
              have HNL := Lib.hid hnl
              clear hnl hem
              repeat' (first | (apply U6; exact Z1; exact Z1; (focus (exact hcl)); simp only [pM, pN, rR, rP]) | (refine ⟨⟨trivial, trivial⟩, ?_⟩) | (refine ⟨⟨rfl, rfl⟩, ?_⟩) | (refine Z5 rfl rfl ?_) | (refine Z8 rfl rfl ?_) | (refine Z6 ?_) | (refine Z9 ?_; simp only [tN, bN, eN, true_and]) | (apply Z7; exact rfl; exact rfl; exact Z1; simp only [pM, pN]) | refine Y1 ?_ | refine U7 ?_ | refine U8 ?_ | refine U9 ?_ | refine Y2 ?_ | ((first | refine Y3 ?_ | refine Y8 ?_); simp only [tN, bN, eN, true_and]) | (apply U4; exact Z1; exact rfl; simp only [pM, pN, rR, rP]) | (refine J3 rfl rfl ?_ ?_; exact Z2) | (refine J4 rfl rfl ?_ ?_; exact Z2; simp only [pM, pN, rR, rP]) | (apply U3; exact rfl; exact rfl; exact Z1; refine ⟨fun hh => ?_, fun hh => ?_⟩ <;> try simp only [Bool.not_true, Bool.not_false, pM, pN] at hh ⊢) | (apply U5; exact rfl; exact Z3; simp only [pM, pN, rR, rP]) | (simp only [tP, bP, eP, true_and]) | (refine Y7 ?_; simp only [tR, bR, eR, true_and]) | (refine Y9 ?_; simp only [tX, bS, bO, Nat.reduceBEq, tN, bN]) | (refine Y4 ?_ ?_; exact Z2) | (refine Y5 ?_ ?_; exact Z2) | (apply Y6; exact Z1; refine ⟨fun hh => ?_, fun hh => ?_⟩))
              refine ⟨hjt, _, _, g, interS s m.sp, rfl, HNL.out, ?_, ?_, ?_, ?_, ?_, ?_, ?_, ?_, ?_, ?_, by omega⟩
              all_goals exact Z2
          · have hbl : (m.b == (k : Int)) = false := by simpa using hbl
            have hnl : limS k (ax.limits.drop (j + 1)) s = limS k ax.limits s0 := by rw [← HM.out, hbl]; rfl
            have HNL := Lib.hid hnl
            clear hnl
            repeat' (first | (apply U6; exact Z1; exact Z1; (focus (exact hcl)); simp only [pM, pN, rR, rP]) | (refine ⟨⟨trivial, trivial⟩, ?_⟩) | (refine ⟨⟨rfl, rfl⟩, ?_⟩) | (refine Z5 rfl rfl ?_) | (refine Z8 rfl rfl ?_) | (refine Z6 ?_) | (refine Z9 ?_; simp only [tN, bN, eN, true_and]) | (apply Z7; exact rfl; exact rfl; exact Z1; simp only [pM, pN]) | refine Y1 ?_ | refine U7 ?_ | refine U8 ?_ | refine U9 ?_ | refine Y2 ?_ | ((first | refine Y3 ?_ | refine Y8 ?_); simp only [tN, bN, eN, true_and]) | (apply U4; exact Z1; exact rfl; simp only [pM, pN, rR, rP]) | (refine J3 rfl rfl ?_ ?_; exact Z2) | (refine J4 rfl rfl ?_ ?_; exact Z2; simp only [pM, pN, rR, rP]) | (apply U3; exact rfl; exact rfl; exact Z1; refine ⟨fun hh => ?_, fun hh => ?_⟩ <;> try simp only [Bool.not_true, Bool.not_false, pM, pN] at hh ⊢) | (apply U5; exact rfl; exact Z3; simp only [pM, pN, rR, rP]) | (simp only [tP, bP, eP, true_and]) | (refine Y7 ?_; simp only [tR, bR, eR, true_and]) | (refine Y9 ?_; simp only [tX, bS, bO, Nat.reduceBEq, tN, bN]) | (refine Y4 ?_ ?_; exact Z2) | (refine Y5 ?_ ?_; exact Z2) | (apply Y6; exact Z1; refine ⟨fun hh => ?_, fun hh => ?_⟩))
            refine ⟨hjt, _, _, g, s, rfl, HNL.out, ?_, ?_, ?_, ?_, ?_, ?_, ?_, ?_, ?_, ?_, by omega⟩
            all_goals exact Z2
        · have hdj : decide ((j : Int) < (ax.limits.length : Int)) = false := by simpa using hjt
          have hjl : j = ax.limits.length := by omega
          have hfin : limS k ax.limits s0 = some s := by
            rw [← HLS.out, hjl, List.drop_length, limS_nil]
          have hf1 : fwdS ax (k + 1) = some (out ++ [s]) := by rw [HNX.out, hfin]
          have HF1 := Lib.hid hf1
          clear hf1 hfin hjl hd
          repeat' (first | (apply WO1.appendN (t := 146) (u := 146) (e := 48) (e' := 48) (sz := 2) (tl := []) (b := h.next) (h0 := h) (hb := hB) (hx := hX); exact Z1; exact rfl; (focus exact Z2); (focus exact Z2); (focus exact Z2); (focus (exact ty_row146)); exact Z1; (focus (intro v hv; simp at hv; rcases hv with rfl | rfl <;> rfl)); (focus (simp only [List.length_cons, List.length_nil]; exact hll)); (focus (simp)); (intro v' h' hB' ho' hX'; simp only [pM, pN])) | (refine ⟨⟨trivial, trivial⟩, ?_⟩) | (refine ⟨⟨rfl, rfl⟩, ?_⟩) | (refine Z5 rfl rfl ?_) | (refine Z8 rfl rfl ?_) | (refine Z6 ?_) | (refine Z9 ?_; simp only [tN, bN, eN, true_and]) | (apply Z7; exact rfl; exact rfl; exact Z1; simp only [pM, pN]) | refine Y1 ?_ | refine U7 ?_ | refine U8 ?_ | refine U9 ?_ | refine Y2 ?_ | ((first | refine Y3 ?_ | refine Y8 ?_); simp only [tN, bN, eN, true_and]) | (apply U4; exact Z1; exact rfl; simp only [pM, pN, rR, rP]) | (refine J3 rfl rfl ?_ ?_; exact Z2) | (refine J4 rfl rfl ?_ ?_; exact Z2; simp only [pM, pN, rR, rP]) | (apply U3; exact rfl; exact rfl; exact Z1; refine ⟨fun hh => ?_, fun hh => ?_⟩ <;> try simp only [Bool.not_true, Bool.not_false, pM, pN] at hh ⊢) | (apply U5; exact rfl; exact Z3; simp only [pM, pN, rR, rP]) | (simp only [tP, bP, eP, true_and]) | (refine Y7 ?_; simp only [tR, bR, eR, true_and]) | (refine Y9 ?_; simp only [tX, bS, bO, Nat.reduceBEq, tN, bN]) | (refine Y4 ?_ ?_; exact Z2) | (refine Y5 ?_ ?_; exact Z2) | (apply Y6; exact Z1; refine ⟨fun hh => ?_, fun hh => ?_⟩))
          refine ⟨hlt, _, _, _, v', out ++ [s], rfl, HF1.out, ?_, hX', ?_, ?_, ?_, ?_, by omega⟩
          · simpa [spC] using hB'
          all_goals exact Z2)
    · have hgt : decide ((k : Int) > 0) = true := by simp; omega
      have hne : out.map spC.enc ≠ [] := by
        intro e
        have : out = [] := by simpa using e
        rw [this] at hol
        simp at hol
        omega
      obtain ⟨id, hu, hgr, hbid, hidn⟩ := hB.row hne
      have hwm : IntKind.i64.wrap (↑k - 1) = ↑(k - 1) := by rw [wrap_small (by omega) (by omega)]; omega
      have hrow : (out.map spC.enc)[k - 1]? = some (.agg [.int .i64 pv.lo, .int .i64 pv.hi]) := by simp [hpv, spC]
      have hixr : indexAddrV Tryz.prog hp 146 u (.int .i64 ↑(k - 1)) = some (.eptr id 2 (k - 1) 0) := by
        have h1 : idxV (.int .i64 ↑(k - 1)) (out.map spC.enc).length = some (k - 1) := by
          simp only [idxV, List.length_map, hol]
          rw [if_pos (by omega)]
          simp
        rw [hu]
        simp only [indexAddrV, Tryz.underlying146, ty_lay48, h1, hgr, if_true, Nat.zero_add]
      have HU := Lib.hid hu
      have HPV := Lib.hid hpv
      have HSC := Lib.hid hsc
      clear hol hu hne hpv hk0 hsc
      repeat' (first | (apply W.drawQ (id := 7) (l1 := [0, 1, 2, 3, 4, 5, 6, 7, 8, 9, 10, 11, 12, 13, 14, 15, 16, 17, 18, 19, 20]) (l2 := [21]); kernel_rfl; kernel_rfl; kernel_rfl; exact Z4) | (apply W.drawQ (id := 20) (l1 := [0, 1, 2, 3, 4, 5, 6, 7, 8, 9, 10, 11, 12, 13, 14, 15, 16, 17, 18, 19, 20, 21, 22]) (l2 := [23]); kernel_rfl; kernel_rfl; kernel_rfl; exact Z4) | (refine ⟨⟨trivial, trivial⟩, ?_⟩) | (refine ⟨⟨rfl, rfl⟩, ?_⟩) | (refine Z5 rfl rfl ?_) | (refine Z8 rfl rfl ?_) | (refine Z6 ?_) | (refine Z9 ?_; simp only [tN, bN, eN, true_and]) | (apply Z7; exact rfl; exact rfl; exact Z1; simp only [pM, pN]) | refine Y1 ?_ | refine U7 ?_ | refine U8 ?_ | refine U9 ?_ | refine Y2 ?_ | ((first | refine Y3 ?_ | refine Y8 ?_); simp only [tN, bN, eN, true_and]) | (apply U4; exact Z1; exact rfl; simp only [pM, pN, rR, rP]) | (refine J3 rfl rfl ?_ ?_; exact Z2) | (refine J4 rfl rfl ?_ ?_; exact Z2; simp only [pM, pN, rR, rP]) | (apply U3; exact rfl; exact rfl; exact Z1; refine ⟨fun hh => ?_, fun hh => ?_⟩ <;> try simp only [Bool.not_true, Bool.not_false, pM, pN] at hh ⊢) | (apply U5; exact rfl; exact Z3; simp only [pM, pN, rR, rP]) | (simp only [tP, bP, eP, true_and]) | (refine Y7 ?_; simp only [tR, bR, eR, true_and]) | (refine Y9 ?_; simp only [tX, bS, bO, Nat.reduceBEq, tN, bN]) | (refine Y4 ?_ ?_; exact Z2) | (refine Y5 ?_ ?_; exact Z2) | (apply Y6; exact Z1; refine ⟨fun hh => ?_, fun hh => ?_⟩))
      all_goals (clear hgr hixr hrow hwm)
      all_goals (
        refine W.loopN ax.limits.length (fun j F => ∃ e lm g s, F = Fr.mk 157 false e lm hp [] none ∧ limS k (ax.limits.drop j) s = limS k ax.limits s0 ∧ lm.get 1 = some (0, [.int .i64 ax.chuck.lo, .int .i64 ax.chuck.hi, .int .i64 ax.wear.lo, .int .i64 ax.wear.hi, v]) ∧ lm.get 5 = some (g, [.int .i64 s.lo, .int .i64 s.hi]) ∧
          e.get 1 = some (.lptr 1 0 0) ∧ e.get 3 = some u ∧ e.get 4 = some (.int .i64 ↑k) ∧ e.get 5 = some (.lptr 5 g 0) ∧ e.get 10 = some (.int .i64 ↑k) ∧ e.get 39 = some v ∧ e.get 40 = some (.int .i64 ↑ax.limits.length) ∧ e.get 41 = some (.int .i64 ↑j) ∧ j ≤ ax.limits.length) ?_ ?_
        · refine ⟨_, _, nextGen lm 5, s0, rfl, ?_, ?_, ?_, ?_, ?_, ?_, ?_, ?_, ?_, ?_, ?_, ?_⟩ <;> first | exact Z2 | (have hsc := HSC.out; simp only [hsc, nxtS, w64, go_sem, *, Nat.reduceLT, Int.reduceEq, Int.reduceBEq, Int.reduceLE, Int.reduceLT, Nat.reduceAdd, Nat.reduceBEq, Nat.reduceEqDiff, reduceIte, Nat.reduceLeDiff, Nat.reduceMul, Nat.reduceSub, reduceCtorEq]; done) | simp
        rintro j F ⟨e, lm, g, s, rfl, hls, hl1, hl5, h1, h3, h4, h5, h10, h39, h40, h41, hj⟩
        have HLS := Lib.hid hls
        clear hls hgt
        by_cases hjt : j < ax.limits.length
        · obtain ⟨m, hm⟩ := get_some hjt
          have hdr : ax.limits.drop j = m :: ax.limits.drop (j + 1) := by
            rw [List.drop_eq_getElem_cons hjt]
            rw [List.getElem?_eq_getElem hjt] at hm
            rw [Option.some.inj hm]
          obtain ⟨ptr, hptr, hmem⟩ := HV.out.get j m hm hp hX.2
          have hdj : decide ((j : Int) < (ax.limits.length : Int)) = true := by simpa using hjt
          have hwj := wrap_succ hjt hmax
          have hlsm : (if m.b == ↑k then (if empS (interS s m.sp) then none else limS k (ax.limits.drop (j + 1)) (interS s m.sp)) else limS k (ax.limits.drop (j + 1)) s) = limS k ax.limits s0 := by
            have := HLS.out
            rw [hdr, limS_cons] at this
            exact this
          have HM := Lib.hid hlsm
          clear hm hdr hlsm hd
          by_cases hbl : (m.b == (k : Int)) = true
          · by_cases hem : empS (interS s m.sp) = true
            · have hcl : Cl (dX c) 191 [.int .i64 ↑k, .agg [.int .i64 s.lo, .int .i64 s.hi], .vslice [.agg [.int .i64 m.lo, .int .i64 m.hi]]] hp (.pan (.iface 223 (.agg [.int .i64 ↑k])) hp none) := by
                have q := C191 c hc2 ↑k s (.vslice [.agg [.int .i64 m.lo, .int .i64 m.hi]]) [m.sp] rfl hp
                rw [comR_pan hem] at q
                exact q
              have hbn := HBN.out (by rw [← HM.out, hbl, hem]; rfl)
              have HB2 := Lib.hid hbn
              clear hbn hem
              repeat' (first | (apply U6; exact Z1; exact Z1; (focus (exact hcl)); simp only [pM, pN, rR, rP]) | (refine ⟨⟨trivial, trivial⟩, ?_⟩) | (refine ⟨⟨rfl, rfl⟩, ?_⟩) | (refine Z5 rfl rfl ?_) | (refine Z8 rfl rfl ?_) | (refine Z6 ?_) | (refine Z9 ?_; simp only [tN, bN, eN, true_and]) | (apply Z7; exact rfl; exact rfl; exact Z1; simp only [pM, pN]) | refine Y1 ?_ | refine U7 ?_ | refine U8 ?_ | refine U9 ?_ | refine Y2 ?_ | ((first | refine Y3 ?_ | refine Y8 ?_); simp only [tN, bN, eN, true_and]) | (apply U4; exact Z1; exact rfl; simp only [pM, pN, rR, rP]) | (refine J3 rfl rfl ?_ ?_; exact Z2) | (refine J4 rfl rfl ?_ ?_; exact Z2; simp only [pM, pN, rR, rP]) | (apply U3; exact rfl; exact rfl; exact Z1; refine ⟨fun hh => ?_, fun hh => ?_⟩ <;> try simp only [Bool.not_true, Bool.not_false, pM, pN] at hh ⊢) | (apply U5; exact rfl; exact Z3; simp only [pM, pN, rR, rP]) | (simp only [tP, bP, eP, true_and]) | (refine Y7 ?_; simp only [tR, bR, eR, true_and]) | (refine Y9 ?_; simp only [tX, bS, bO, Nat.reduceBEq, tN, bN]) | (refine Y4 ?_ ?_; exact Z2) | (refine Y5 ?_ ?_; exact Z2) | (apply Y6; exact Z1; refine ⟨fun hh => ?_, fun hh => ?_⟩))
              exact isBnd_pan HB2.out hX
            · have hem : empS (interS s m.sp) = false := by simpa using hem
              have hcl : Cl (dX c) 191 [.int .i64 ↑k, .agg [.int .i64 s.lo, .int .i64 s.hi], .vslice [.agg [.int .i64 m.lo, .int .i64 m.hi]]] hp (.ret (.agg [.int .i64 (interS s m.sp).lo, .int .i64 (interS s m.sp).hi]) hp none) := by
                have q := C191 c hc2 ↑k s (.vslice [.agg [.int .i64 m.lo, .int .i64 m.hi]]) [m.sp] rfl hp
                rw [comR_ret hem] at q
                exact q
              have hnl : limS k (ax.limits.drop (j + 1)) (interS s m.sp) = limS k ax.limits s0 := by rw [← HM.out, hbl, hem]; rfl
              have HNL := Lib.hid hnl
              clear hnl hem
              repeat' (first | (apply U6; exact Z1; exact Z1; (focus (exact hcl)); simp only [pM, pN, rR, rP]) | (refine ⟨⟨trivial, trivial⟩, ?_⟩) | (refine ⟨⟨rfl, rfl⟩, ?_⟩) | (refine Z5 rfl rfl ?_) | (refine Z8 rfl rfl ?_) | (refine Z6 ?_) | (refine Z9 ?_; simp only [tN, bN, eN, true_and]) | (apply Z7; exact rfl; exact rfl; exact Z1; simp only [pM, pN]) | refine Y1 ?_ | refine U7 ?_ | refine U8 ?_ | refine U9 ?_ | refine Y2 ?_ | ((first | refine Y3 ?_ | refine Y8 ?_); simp only [tN, bN, eN, true_and]) | (apply U4; exact Z1; exact rfl; simp only [pM, pN, rR, rP]) | (refine J3 rfl rfl ?_ ?_; exact Z2) | (refine J4 rfl rfl ?_ ?_; exact Z2; simp only [pM, pN, rR, rP]) | (apply U3; exact rfl; exact rfl; exact Z1; refine ⟨fun hh => ?_, fun hh => ?_⟩ <;> try simp only [Bool.not_true, Bool.not_false, pM, pN] at hh ⊢) | (apply U5; exact rfl; exact Z3; simp only [pM, pN, rR, rP]) | (simp only [tP, bP, eP, true_and]) | (refine Y7 ?_; simp only [tR, bR, eR, true_and]) | (refine Y9 ?_; simp only [tX, bS, bO, Nat.reduceBEq, tN, bN]) | (refine Y4 ?_ ?_; exact Z2) | (refine Y5 ?_ ?_; exact Z2) | (apply Y6; exact Z1; refine ⟨fun hh => ?_, fun hh => ?_⟩))
              refine ⟨hjt, _, _, g, interS s m.sp, rfl, HNL.out, ?_, ?_, ?_, ?_, ?_, ?_, ?_, ?_, ?_, ?_, by omega⟩
              all_goals exact Z2
          · have hbl : (m.b == (k : Int)) = false := by simpa using hbl
            have hnl : limS k (ax.limits.drop (j + 1)) s = limS k ax.limits s0 := by rw [← HM.out, hbl]; rfl
            have HNL := Lib.hid hnl
            clear hnl
            repeat' (first | (apply U6; exact Z1; exact Z1; (focus (exact hcl)); simp only [pM, pN, rR, rP]) | (refine ⟨⟨trivial, trivial⟩, ?_⟩) | (refine ⟨⟨rfl, rfl⟩, ?_⟩) | (refine Z5 rfl rfl ?_) | (refine Z8 rfl rfl ?_) | (refine Z6 ?_) | (refine Z9 ?_; simp only [tN, bN, eN, true_and]) | (apply Z7; exact rfl; exact rfl; exact Z1; simp only [pM, pN]) | refine Y1 ?_ | refine U7 ?_ | refine U8 ?_ | refine U9 ?_ | refine Y2 ?_ | ((first | refine Y3 ?_ | refine Y8 ?_); simp only [tN, bN, eN, true_and]) | (apply U4; exact Z1; exact rfl; simp only [pM, pN, rR, rP]) | (refine J3 rfl rfl ?_ ?_; exact Z2) | (refine J4 rfl rfl ?_ ?_; exact Z2; simp only [pM, pN, rR, rP]) | (apply U3; exact rfl; exact rfl; exact Z1; refine ⟨fun hh => ?_, fun hh => ?_⟩ <;> try simp only [Bool.not_true, Bool.not_false, pM, pN] at hh ⊢) | (apply U5; exact rfl; exact Z3; simp only [pM, pN, rR, rP]) | (simp only [tP, bP, eP, true_and]) | (refine Y7 ?_; simp only [tR, bR, eR, true_and]) | (refine Y9 ?_; simp only [tX, bS, bO, Nat.reduceBEq, tN, bN]) | (refine Y4 ?_ ?_; exact Z2) | (refine Y5 ?_ ?_; exact Z2) | (apply Y6; exact Z1; refine ⟨fun hh => ?_, fun hh => ?_⟩))
            refine ⟨hjt, _, _, g, s, rfl, HNL.out, ?_, ?_, ?_, ?_, ?_, ?_, ?_, ?_, ?_, ?_, by omega⟩
            all_goals exact Z2
        · have hdj : decide ((j : Int) < (ax.limits.length : Int)) = false := by simpa using hjt
          have hjl : j = ax.limits.length := by omega
          have hfin : limS k ax.limits s0 = some s := by
            rw [← HLS.out, hjl, List.drop_length, limS_nil]
          have hf1 : fwdS ax (k + 1) = some (out ++ [s]) := by rw [HNX.out, hfin]
          have HF1 := Lib.hid hf1
          clear hf1 hfin hjl hd
          repeat' (first | (apply WO1.appendN (t := 146) (u := 146) (e := 48) (e' := 48) (sz := 2) (tl := []) (b := h.next) (h0 := h) (hb := hB) (hx := hX); exact Z1; exact rfl; (focus exact Z2); (focus exact Z2); (focus exact Z2); (focus (exact ty_row146)); exact Z1; (focus (intro v hv; simp at hv; rcases hv with rfl | rfl <;> rfl)); (focus (simp only [List.length_cons, List.length_nil]; exact hll)); (focus (simp)); (intro v' h' hB' ho' hX'; simp only [pM, pN])) | (refine ⟨⟨trivial, trivial⟩, ?_⟩) | (refine ⟨⟨rfl, rfl⟩, ?_⟩) | (refine Z5 rfl rfl ?_) | (refine Z8 rfl rfl ?_) | (refine Z6 ?_) | (refine Z9 ?_; simp only [tN, bN, eN, true_and]) | (apply Z7; exact rfl; exact rfl; exact Z1; simp only [pM, pN]) | refine Y1 ?_ | refine U7 ?_ | refine U8 ?_ | refine U9 ?_ | refine Y2 ?_ | ((first | refine Y3 ?_ | refine Y8 ?_); simp only [tN, bN, eN, true_and]) | (apply U4; exact Z1; exact rfl; simp only [pM, pN, rR, rP]) | (refine J3 rfl rfl ?_ ?_; exact Z2) | (refine J4 rfl rfl ?_ ?_; exact Z2; simp only [pM, pN, rR, rP]) | (apply U3; exact rfl; exact rfl; exact Z1; refine ⟨fun hh => ?_, fun hh => ?_⟩ <;> try simp only [Bool.not_true, Bool.not_false, pM, pN] at hh ⊢) | (apply U5; exact rfl; exact Z3; simp only [pM, pN, rR, rP]) | (simp only [tP, bP, eP, true_and]) | (refine Y7 ?_; simp only [tR, bR, eR, true_and]) | (refine Y9 ?_; simp only [tX, bS, bO, Nat.reduceBEq, tN, bN]) | (refine Y4 ?_ ?_; exact Z2) | (refine Y5 ?_ ?_; exact Z2) | (apply Y6; exact Z1; refine ⟨fun hh => ?_, fun hh => ?_⟩))
          refine ⟨hlt, _, _, _, v', out ++ [s], rfl, HF1.out, ?_, hX', ?_, ?_, ?_, ?_, by omega⟩
          · simpa [spC] using hB'
          all_goals exact Z2)
  · have hd : decide ((k : Int) < 13) = false := by simp; omega
    have hk13 : k = 13 := by omega
    have hne : out.map spC.enc ≠ [] := by
      intro e
      have : out = [] := by simpa using e
      rw [this] at hol
      simp at hol
      omega
    obtain ⟨id, hu, hgr, hbid, hidn⟩ := hB.row hne
    have hu13 : u = .row id 0 13 := by rw [hu, List.length_map, hol, hk13]
    have hol13 : out.length = 13 := by omega
    have hbd : boundsS ax = bwdS ax 12 out := by rw [hk13] at hf; simp only [boundsS_def, hf]
    subst hu13
    have HBD := Lib.hid hbd
    have HOL := Lib.hid hol13
    have HGR := Lib.hid hgr
    clear hbd hol13 hgr hf hol hk13 hu hne hB hk
    repeat' (first | (apply W.drawQ (id := 7) (l1 := [0, 1, 2, 3, 4, 5, 6, 7, 8, 9, 10, 11, 12, 13, 14, 15, 16, 17, 18, 19, 20]) (l2 := [21]); kernel_rfl; kernel_rfl; kernel_rfl; exact Z4) | (apply W.drawQ (id := 20) (l1 := [0, 1, 2, 3, 4, 5, 6, 7, 8, 9, 10, 11, 12, 13, 14, 15, 16, 17, 18, 19, 20, 21, 22]) (l2 := [23]); kernel_rfl; kernel_rfl; kernel_rfl; exact Z4) | (refine ⟨⟨trivial, trivial⟩, ?_⟩) | (refine ⟨⟨rfl, rfl⟩, ?_⟩) | (refine Z5 rfl rfl ?_) | (refine Z8 rfl rfl ?_) | (refine Z6 ?_) | (refine Z9 ?_; simp only [tN, bN, eN, true_and]) | (apply Z7; exact rfl; exact rfl; exact Z1; simp only [pM, pN]) | refine Y1 ?_ | refine U7 ?_ | refine U8 ?_ | refine U9 ?_ | refine Y2 ?_ | ((first | refine Y3 ?_ | refine Y8 ?_); simp only [tN, bN, eN, true_and]) | (apply U4; exact Z1; exact rfl; simp only [pM, pN, rR, rP]) | (refine J3 rfl rfl ?_ ?_; exact Z2) | (refine J4 rfl rfl ?_ ?_; exact Z2; simp only [pM, pN, rR, rP]) | (apply U3; exact rfl; exact rfl; exact Z1; refine ⟨fun hh => ?_, fun hh => ?_⟩ <;> try simp only [Bool.not_true, Bool.not_false, pM, pN] at hh ⊢) | (apply U5; exact rfl; exact Z3; simp only [pM, pN, rR, rP]) | (simp only [tP, bP, eP, true_and]) | (refine Y7 ?_; simp only [tR, bR, eR, true_and]) | (refine Y9 ?_; simp only [tX, bS, bO, Nat.reduceBEq, tN, bN]) | (refine Y4 ?_ ?_; exact Z2) | (refine Y5 ?_ ?_; exact Z2) | (apply Y6; exact Z1; refine ⟨fun hh => ?_, fun hh => ?_⟩))
    refine W.loopN 12 (fun j F => ∃ e lm hp cur, F = Fr.mk 157 false e lm hp [] none ∧ bwdS ax (12 - j) cur = bwdS ax 12 out ∧ cur.length = 13 ∧ hp.get id = some (.rw 2 (cur.map spC.enc)) ∧ (id < hp.next ∧ h.next ≤ hp.next ∧ ∀ id, id < h.next → hp.get id = h.get id) ∧
      lm.get 1 = some (0, [.int .i64 ax.chuck.lo, .int .i64 ax.chuck.hi, .int .i64 ax.wear.lo, .int .i64 ax.wear.hi, v]) ∧ e.get 1 = some (.lptr 1 0 0) ∧ e.get 3 = some (.row id 0 13) ∧ e.get 8 = some (.int .i64 (11 - ↑j)) ∧ j ≤ 12) ?_ ?_
    · refine ⟨_, _, _, out, rfl, rfl, HOL.out, HGR.out, ⟨hidn, hX⟩, ?_, ?_, ?_, ?_, ?_⟩ <;> first | exact Z2 | simp [go_sem, *]
    clear hd hbo h10
    rintro j F ⟨e, lm, hp, cur, rfl, hbw, hcl13, hgid, hX, hl1, h1, h3, h8, hj⟩
    have HBW := Lib.hid hbw
    have HC := Lib.hid hcl13
    clear hbw
    by_cases hjt : j < 12
    · have hdj : decide ((11 - (j : Int)) ≥ 0) = true := by simp; omega
      obtain ⟨pb, hpb⟩ := get_some (show 11 - j < cur.length by omega)
      obtain ⟨pn, hpn⟩ := get_some (show 12 - j < cur.length by omega)
      have hw1 : IntKind.i64.wrap (11 - ↑j + 1) = ↑(12 - j) := by rw [wrap_small (by omega) (by omega)]; omega
      have hw2 : IntKind.i64.wrap (11 - ↑j - 1) = 11 - ↑(j + 1) := by rw [wrap_small (by omega) (by omega)]; omega
      have hrb : (cur.map spC.enc)[11 - j]? = some (.agg [.int .i64 pb.lo, .int .i64 pb.hi]) := by simp [hpb, spC]
      have hrn : (cur.map spC.enc)[12 - j]? = some (.agg [.int .i64 pn.lo, .int .i64 pn.hi]) := by simp [hpn, spC]
      have hib : ∀ H : Heap, H.get id = some (.rw 2 (cur.map spC.enc)) → indexAddrV Tryz.prog H 146 (.row id 0 13) (.int .i64 (11 - ↑j)) = some (.eptr id 2 (11 - j) 0) := fun H hg => by
        have h1 : idxV (.int .i64 (11 - ↑j)) 13 = some (11 - j) := by
          simp only [idxV]
          rw [if_pos (by omega)]
          congr 1
          omega
        simp only [indexAddrV, Tryz.underlying146, ty_lay48, h1, hg, if_true, Nat.zero_add]
      have hin : ∀ H : Heap, H.get id = some (.rw 2 (cur.map spC.enc)) → indexAddrV Tryz.prog H 146 (.row id 0 13) (.int .i64 ↑(12 - j)) = some (.eptr id 2 (12 - j) 0) := fun H hg => by
        have h1 : idxV (.int .i64 ↑(12 - j)) 13 = some (12 - j) := by
          simp only [idxV]
          rw [if_pos (by omega)]
          simp
        simp only [indexAddrV, Tryz.underlying146, ty_lay48, h1, hg, if_true, Nat.zero_add]
      have hixb := hib hp hgid
      have hixn := hin hp hgid
      have hstep : bwdS ax (12 - j) cur = if empS (interS pb (prvS ax pn)) then none else bwdS ax (11 - j) (cur.set (11 - j) (interS pb (prvS ax pn))) := by
        rw [show 12 - j = (11 - j) + 1 from by omega, bwdS_succ]
        have e1 : cur.getD (11 - j) ⟨0, 0⟩ = pb := by simp [List.getD, hpb]
        have e2 : cur.getD (11 - j + 1) ⟨0, 0⟩ = pn := by rw [show 11 - j + 1 = 12 - j from by omega]; simp [List.getD, hpn]
        rw [e1, e2]
      have HST := Lib.hid hstep
      clear hib hin hpb hpn hstep hcl13
      by_cases hem : empS (interS pb (prvS ax pn)) = true
      · have hcl : Cl (dX c) 191 [.int .i64 (11 - ↑j), .agg [.int .i64 pb.lo, .int .i64 pb.hi], .vslice [.agg [.int .i64 (IntKind.i64.wrap (pn.lo - ax.wear.hi)), .int .i64 (IntKind.i64.wrap (pn.hi - ax.wear.lo))]]] hp (.pan (.iface 223 (.agg [.int .i64 (11 - ↑j)])) hp none) := by
          have q := C191 c hc2 (11 - ↑j) pb (.vslice [.agg [.int .i64 (prvS ax pn).lo, .int .i64 (prvS ax pn).hi]]) [prvS ax pn] rfl hp
          rw [comR_pan hem] at q
          exact q
        have hbn : boundsS ax = none := by rw [HBD.out, ← HBW.out, HST.out, hem]; rfl
        have HBN := Lib.hid hbn
        clear hbn hem
        repeat' (first | (apply W.drawP (id := 20) (i := 21) (l1 := [0, 1, 2, 3, 4, 5, 6, 7, 8, 9, 10, 11, 12, 13, 14, 15, 16, 17, 18, 19, 20]) (l2 := [22, 23]); kernel_rfl; kernel_rfl; kernel_rfl; exact rfl; exact rfl; exact Z4) | (apply U6; exact Z1; exact Z1; (focus (exact hcl)); simp only [pM, pN, rR, rP]) | (simp only [junkAll, pM, pN, tP, bP, eP, true_and]) | (refine ⟨⟨trivial, trivial⟩, ?_⟩) | (refine ⟨⟨rfl, rfl⟩, ?_⟩) | (refine Z5 rfl rfl ?_) | (refine Z8 rfl rfl ?_) | (refine Z6 ?_) | (refine Z9 ?_; simp only [tN, bN, eN, true_and]) | (apply Z7; exact rfl; exact rfl; exact Z1; simp only [pM, pN]) | refine Y1 ?_ | refine U7 ?_ | refine U8 ?_ | refine U9 ?_ | refine Y2 ?_ | ((first | refine Y3 ?_ | refine Y8 ?_); simp only [tN, bN, eN, true_and]) | (apply U4; exact Z1; exact rfl; simp only [pM, pN, rR, rP]) | (refine J3 rfl rfl ?_ ?_; exact Z2) | (refine J4 rfl rfl ?_ ?_; exact Z2; simp only [pM, pN, rR, rP]) | (apply U3; exact rfl; exact rfl; exact Z1; refine ⟨fun hh => ?_, fun hh => ?_⟩ <;> try simp only [Bool.not_true, Bool.not_false, pM, pN] at hh ⊢) | (apply U5; exact rfl; exact Z3; simp only [pM, pN, rR, rP]) | (simp only [tP, bP, eP, true_and]) | (refine Y7 ?_; simp only [tR, bR, eR, true_and]) | (refine Y9 ?_; simp only [tX, bS, bO, Nat.reduceBEq, tN, bN]) | (refine Y4 ?_ ?_; exact Z2) | (refine Y5 ?_ ?_; exact Z2) | (apply Y6; exact Z1; refine ⟨fun hh => ?_, fun hh => ?_⟩))
        exact isBnd_pan HBN.out hX.2
      · have hem : empS (interS pb (prvS ax pn)) = false := by simpa using hem
        have hcl : Cl (dX c) 191 [.int .i64 (11 - ↑j), .agg [.int .i64 pb.lo, .int .i64 pb.hi], .vslice [.agg [.int .i64 (IntKind.i64.wrap (pn.lo - ax.wear.hi)), .int .i64 (IntKind.i64.wrap (pn.hi - ax.wear.lo))]]] hp (.ret (.agg [.int .i64 (interS pb (prvS ax pn)).lo, .int .i64 (interS pb (prvS ax pn)).hi]) hp none) := by
          have q := C191 c hc2 (11 - ↑j) pb (.vslice [.agg [.int .i64 (prvS ax pn).lo, .int .i64 (prvS ax pn).hi]]) [prvS ax pn] rfl hp
          rw [comR_ret hem] at q
          exact q
        have hnb : bwdS ax (11 - j) (cur.set (11 - j) (interS pb (prvS ax pn))) = bwdS ax 12 out := by rw [← HBW.out, HST.out, hem]; rfl
        have HNB := Lib.hid hnb
        clear hnb hem
        repeat' (first | (apply W.drawQ (id := 7) (l1 := [0, 1, 2, 3, 4, 5, 6, 7, 8, 9, 10, 11, 12, 13, 14, 15, 16, 17, 18, 19, 20]) (l2 := [21]); kernel_rfl; kernel_rfl; kernel_rfl; exact Z4) | (apply W.drawQ (id := 20) (l1 := [0, 1, 2, 3, 4, 5, 6, 7, 8, 9, 10, 11, 12, 13, 14, 15, 16, 17, 18, 19, 20, 21, 22]) (l2 := [23]); kernel_rfl; kernel_rfl; kernel_rfl; exact Z4) | (apply U6; exact Z1; exact Z1; (focus (exact hcl)); simp only [pM, pN, rR, rP]) | (refine ⟨⟨trivial, trivial⟩, ?_⟩) | (refine ⟨⟨rfl, rfl⟩, ?_⟩) | (refine Z5 rfl rfl ?_) | (refine Z8 rfl rfl ?_) | (refine Z6 ?_) | (refine Z9 ?_; simp only [tN, bN, eN, true_and]) | (apply Z7; exact rfl; exact rfl; exact Z1; simp only [pM, pN]) | refine Y1 ?_ | refine U7 ?_ | refine U8 ?_ | refine U9 ?_ | refine Y2 ?_ | ((first | refine Y3 ?_ | refine Y8 ?_); simp only [tN, bN, eN, true_and]) | (apply U4; exact Z1; exact rfl; simp only [pM, pN, rR, rP]) | (refine J3 rfl rfl ?_ ?_; exact Z2) | (refine J4 rfl rfl ?_ ?_; exact Z2; simp only [pM, pN, rR, rP]) | (apply U3; exact rfl; exact rfl; exact Z1; refine ⟨fun hh => ?_, fun hh => ?_⟩ <;> try simp only [Bool.not_true, Bool.not_false, pM, pN] at hh ⊢) | (apply U5; exact rfl; exact Z3; simp only [pM, pN, rR, rP]) | (simp only [tP, bP, eP, true_and]) | (refine Y7 ?_; simp only [tR, bR, eR, true_and]) | (refine Y9 ?_; simp only [tX, bS, bO, Nat.reduceBEq, tN, bN]) | (refine Y4 ?_ ?_; exact Z2) | (refine Y5 ?_ ?_; exact Z2) | (apply Y6; exact Z1; refine ⟨fun hh => ?_, fun hh => ?_⟩))
        refine ⟨hjt, _, _, _, cur.set (11 - j) (interS pb (prvS ax pn)), rfl, ?_, ?_, ?_, ?_, ?_, ?_, ?_, ?_, by omega⟩
        · rw [show 12 - (j + 1) = 11 - j from by omega]; exact HNB.out
        · rw [List.length_set]; exact HC.out
        · simp [Heap.get, Heap.put, List.map_set, spC, asElem, isAggV]
        · refine ⟨hX.1, hX.2.1, fun i hi => ?_⟩
          have hne : id ≠ i := by omega
          rw [← hX.2.2 i hi]
          simp [Heap.get, Heap.put, hne]
        all_goals exact Z2
    · have hdj : decide ((11 - (j : Int)) ≥ 0) = false := by simp; omega
      have hj12 : j = 12 := by omega
      have hbc : boundsS ax = some cur := by rw [HBD.out, ← HBW.out, hj12]; rfl
      have HBC := Lib.hid hbc
      clear hbc hj12 hcl13
      have hne2 : cur.map spC.enc ≠ [] := by
        intro e
        have e2 : cur = [] := by simpa using e
        have e3 := HC.out
        rw [e2] at e3
        simp at e3
      have hsl : slN (cur.map spC.enc) = .vslice (cur.map spC.enc) := by
        cases hh : cur.map spC.enc with
        | nil => exact absurd hh hne2
        | cons x l => rfl
      have hz : freeze hp (.row id 0 13) = some (.vslice (cur.map spC.enc), hp.del id) := by
        show frz1 hp (.row id 0 13) = _
        simp only [frz1, hgid, List.length_map, HC.out, Nat.zero_add, Nat.le_refl, if_true, List.drop_zero]
        rw [List.take_of_length_le (by simp [HC.out])]
      have HSL := Lib.hid hsl
      clear hne2 hsl
      repeat' (first | (apply W.drawQ (id := 7) (l1 := [0, 1, 2, 3, 4, 5, 6, 7, 8, 9, 10, 11, 12, 13, 14, 15, 16, 17, 18, 19, 20]) (l2 := [21]); kernel_rfl; kernel_rfl; kernel_rfl; exact Z4) | (apply W.drawQ (id := 20) (l1 := [0, 1, 2, 3, 4, 5, 6, 7, 8, 9, 10, 11, 12, 13, 14, 15, 16, 17, 18, 19, 20, 21, 22]) (l2 := [23]); kernel_rfl; kernel_rfl; kernel_rfl; exact Z4) | (refine ⟨⟨trivial, trivial⟩, ?_⟩) | (refine ⟨⟨rfl, rfl⟩, ?_⟩) | (refine Z5 rfl rfl ?_) | (refine Z8 rfl rfl ?_) | (refine Z6 ?_) | (refine Z9 ?_; simp only [tN, bN, eN, true_and]) | (apply Z7; exact rfl; exact rfl; exact Z1; simp only [pM, pN]) | refine Y1 ?_ | refine U7 ?_ | refine U8 ?_ | refine U9 ?_ | refine Y2 ?_ | ((first | refine Y3 ?_ | refine Y8 ?_); simp only [tN, bN, eN, true_and]) | (apply U4; exact Z1; exact rfl; simp only [pM, pN, rR, rP]) | (refine J3 rfl rfl ?_ ?_; exact Z2) | (refine J4 rfl rfl ?_ ?_; exact Z2; simp only [pM, pN, rR, rP]) | (apply U3; exact rfl; exact rfl; exact Z1; refine ⟨fun hh => ?_, fun hh => ?_⟩ <;> try simp only [Bool.not_true, Bool.not_false, pM, pN] at hh ⊢) | (apply U5; exact rfl; exact Z3; simp only [pM, pN, rR, rP]) | (simp only [tP, bP, eP, true_and]) | (refine Y7 ?_; simp only [tR, bR, eR, true_and]) | (refine Y9 ?_; simp only [tX, bS, bO, Nat.reduceBEq, tN, bN]) | (refine Y4 ?_ ?_; exact Z2) | (refine Y5 ?_ ?_; exact Z2) | (apply Y6; exact Z1; refine ⟨fun hh => ?_, fun hh => ?_⟩))
      all_goals simp only [resV_def (X := dX c) Tryz.func157, Tryz.results157, resultsV, resultV, go_sem, *, Nat.reduceLT, Int.reduceEq, Int.reduceBEq, Int.reduceLE, Int.reduceLT, Nat.reduceAdd, Nat.reduceBEq, Nat.reduceEqDiff, reduceIte, Nat.reduceLeDiff, Nat.reduceMul, Nat.reduceSub, reduceCtorEq, frzRes, dFrz, frzCells, isRet_ret, tupleOf]
      refine isBnd_ret HBC.out HSL.out ⟨hX.2.1, fun i hi => ?_⟩
      have hne : id ≠ i := by omega
      rw [← hX.2.2 i hi]
      simp [Heap.get, Heap.del, hne]
end Go.AM
