/-
  Truths of machines: the program's and the reference's, and that both say the same.
-/
import Derived.Test.YtlhcjccaimmhgaaGreatDoorEvalC
import Derived.Test.YtlhcjccaimmhgaaGreatDoorFnD
import Derived.Test.YtlhcjccaimmhgaaGreatDoorLib
set_option linter.unusedSectionVars false
set_option linter.unusedVariables false
set_option linter.unusedSimpArgs false
namespace Go.AM
open Go
variable [Keep]
variable {C : Cfg} {h : Heap} {w : World}
end Go.AM
namespace Go.AM
open Go
variable [Keep]
structure Four (h : Heap) (a b c d : AV) (k l m n : List AV) : Prop where
  ba : Blt h a 1 k
  bb : Blt h b 1 l
  bc' : Blt h c 1 m
  bd' : Blt h d 1 n
  ab : Sep a b
  ac : Sep a c
  ad : Sep a d
  bc : Sep b c
  bd : Sep b d
  cd : Sep c d
section
variable {h h' : Heap} {a b c d v : AV} {k l m n r : List AV} {i : Nat}
theorem Four.nil : Four h .nilslice .nilslice .nilslice .nilslice [] [] [] [] := ⟨.nil, .nil, .nil, .nil, .nil _, .nil _, .nil _, .nil _, .nil _, .nil _⟩
theorem Four.one (q : Four h a b c d k l m n) (hb : Blt h' v 1 r) (hk : Keeps h h' a) (he : v = .row h.next 0 i) : Four h' v b c d r l m n := by
  subst he
  exact ⟨hb, q.bb.apart hk q.ab, q.bc'.apart hk q.ac, q.bd'.apart hk q.ad, .new q.bb (Nat.le_refl _) _, .new q.bc' (Nat.le_refl _) _, .new q.bd' (Nat.le_refl _) _, q.bc, q.bd, q.cd⟩
theorem Four.turn (q : Four h a b c d k l m n) : Four h b c d a l m n k := ⟨q.bb, q.bc', q.bd', q.ba, q.bc, q.bd, q.ab.symm, q.cd, q.ac.symm, q.ad.symm⟩
theorem Four.two (q : Four h a b c d k l m n) (hb : Blt h' v 1 r) (hk : Keeps h h' b) (he : v = .row h.next 0 i) : Four h' a v c d k r m n := (q.turn.one hb hk he).turn.turn.turn
end
end Go.AM
set_option maxRecDepth 100000
namespace Go.AM
open Go Go.Proofs
variable [Keep]
attribute [local irreducible] W WO WO1 WD WQ WT thenQ blockQ endR isRet retK Cl ClR
attribute [local irreducible] boundsS machB
def okN (n : Int) : Bool := inB n (-80) 80
def truthB (xs ys : List Int) : Bool := ((xs.length : Int) == 13) && ((ys.length : Int) == 13) && xs.all okN && ys.all okN
def movedL (l : List Pt) (x y : Int) : List Pt := l.map fun p => ⟨w64 (p.x + x), w64 (p.y + y)⟩
def sp79 : List AV → Option AV
  | [a, .int .i64 x, .int .i64 y] => (slV ptC a).map fun l => slN ((movedL l x y).map ptC.enc)
  | _ => none
theorem p79 : ∀ args v, sp79 args = some v → v.pur = true := by
  intro args v h
  unfold sp79 at h
  split at h
  · simp only [Option.map_eq_some_iff] at h
    obtain ⟨l, _, rfl⟩ := h
    exact slN_pur (enc_pur ptC _)
  · cases h
set_option maxHeartbeats 1000000 in
theorem F79 : IntrFn Tryz.prog 79 (pureFn sp79) := by
  refine pure_fn (X := dX cQ) cQ_sound p79 ?_
  intro args v h
  unfold sp79 at h
  split at h
  · rename_i a x y
    simp only [Option.map_eq_some_iff] at h
    obtain ⟨l, hl, rfl⟩ := h
    have hlen := sl_len hl
    have hout := sl_out hl
    have hmax := sl_max hl
    refine ClR.walk (c := _) rfl Tryz.func79 rfl (by kernel_rfl) rfl isRet_fail ?_
    simp only [entryEnv, Nat.reduceAdd]
    repeat' (first | refine Y1 ?_ | refine U7 ?_ | refine U8 ?_ | refine U9 ?_ | refine Y2 ?_ | ((first | refine Y3 ?_ | refine Y8 ?_); simp only [tN, bN, eN, true_and]) | (apply U4; exact Z1; exact rfl; simp only [pM, pN, rR, rP]) | (refine J3 rfl rfl ?_ ?_; exact Z2) | (refine J4 rfl rfl ?_ ?_; exact Z2; simp only [pM, pN, rR, rP]) | (apply U3; exact rfl; exact rfl; exact Z1; refine ⟨fun hh => ?_, fun hh => ?_⟩ <;> try simp only [Bool.not_true, Bool.not_false, pM, pN] at hh ⊢) | (apply U5; exact rfl; exact Z3; simp only [pM, pN, rR, rP]) | (simp only [tP, bP, eP, true_and]) | (refine Y7 ?_; simp only [tR, bR, eR, true_and]) | (refine Y9 ?_; simp only [tX, bS, bO, Nat.reduceBEq, tN, bN]) | (refine Y4 ?_ ?_; exact Z2) | (refine Y5 ?_ ?_; exact Z2) | (apply Y6; exact Z1; refine ⟨fun hh => ?_, fun hh => ?_⟩))
    refine W.loopN l.length (fun k F => ∃ e lm hp u, F = Fr.mk 79 false e lm hp [] none ∧ Blt hp u 2 ((movedL (l.take k) x y).map ptC.enc) ∧ e.get 0 = some a ∧ e.get 1 = some (.int .i64 x) ∧ e.get 2 = some (.int .i64 y) ∧ e.get 7 = some u ∧ e.get 8 = some (.int .i64 ↑k) ∧ k ≤ l.length) ?_ ?_
    · refine ⟨_, _, _, _, rfl, Blt.nil, ?_, ?_, ?_, ?_, ?_, ?_⟩ <;> first | exact Z2 | simp [go_sem, *]
    rintro k F ⟨e, lm, hp, u, rfl, hB, h0, h1, h2, h7, h8, hk⟩
    have hbo := hB.out
    by_cases hlt : k < l.length
    · obtain ⟨p, hp'⟩ := get_some hlt
      have hix := pts_idx hl hp'
      have hd : decide ((k : Int) < (l.length : Int)) = true := by simpa using hlt
      have hw := wrap_succ hlt hmax
      have hnx : movedL (l.take (k + 1)) x y = movedL (l.take k) x y ++ [⟨w64 (p.x + x), w64 (p.y + y)⟩] := by rw [take_next hp']; simp [movedL]
      have hll : ((movedL (l.take k) x y).map ptC.enc).length + 1 ≤ most := by
        simp only [movedL, List.length_map, List.length_take]; unfold most; unfold maxL at hmax; omega
      have HX := Lib.hid hnx
      clear hl hp' hnx
      repeat' (first | (apply W.drawQ (id := 5) (l1 := [0, 1, 2, 3, 4, 5, 6, 7, 8, 9, 10, 11, 12, 13, 14, 15, 16]) (l2 := [17, 18]); kernel_rfl; kernel_rfl; kernel_rfl; exact Z4) | (apply WO1.append (t := 22) (u := 22) (e := 38) (e' := 38) (sz := 2) (tl := []); (focus assumption); exact Z1; exact rfl; exact Z2; exact Z2; exact Z2; (focus (exact ty_row22)); exact Z1; (focus (intro v hv; simp at hv; rcases hv with rfl | rfl <;> rfl)); (focus (simp only [List.length_cons, List.length_nil]; exact hll)); (focus (simp)); (intro v' h' hB' ho' hK'; simp only [pM, pN])) | (refine ⟨⟨trivial, trivial⟩, ?_⟩) | (refine ⟨⟨rfl, rfl⟩, ?_⟩) | (refine Z5 rfl rfl ?_) | (refine Z8 rfl rfl ?_) | (refine Z6 ?_) | (refine Z9 ?_; simp only [tN, bN, eN, true_and]) | (apply Z7; exact rfl; exact rfl; exact Z1; simp only [pM, pN]) | refine Y1 ?_ | refine U7 ?_ | refine U8 ?_ | refine U9 ?_ | refine Y2 ?_ | ((first | refine Y3 ?_ | refine Y8 ?_); simp only [tN, bN, eN, true_and]) | (apply U4; exact Z1; exact rfl; simp only [pM, pN, rR, rP]) | (refine J3 rfl rfl ?_ ?_; exact Z2) | (refine J4 rfl rfl ?_ ?_; exact Z2; simp only [pM, pN, rR, rP]) | (apply U3; exact rfl; exact rfl; exact Z1; refine ⟨fun hh => ?_, fun hh => ?_⟩ <;> try simp only [Bool.not_true, Bool.not_false, pM, pN] at hh ⊢) | (apply U5; exact rfl; exact Z3; simp only [pM, pN, rR, rP]) | (simp only [tP, bP, eP, true_and]) | (refine Y7 ?_; simp only [tR, bR, eR, true_and]) | (refine Y9 ?_; simp only [tX, bS, bO, Nat.reduceBEq, tN, bN]) | (refine Y4 ?_ ?_; exact Z2) | (refine Y5 ?_ ?_; exact Z2) | (apply Y6; exact Z1; refine ⟨fun hh => ?_, fun hh => ?_⟩))
      refine ⟨hlt, _, _, _, v', rfl, ?_, ?_, ?_, ?_, ?_, ?_, by omega⟩
      · rw [HX.out]; simpa [ptC, w64] using hB'
      all_goals exact Z2
    · have hd : decide ((k : Int) < (l.length : Int)) = false := by simpa using hlt
      have hkl : k = l.length := by omega
      rw [hkl, List.take_length] at hB
      obtain ⟨h', hz, hz2, hz1⟩ := hB.freeze
      clear hkl hl
      repeat' (first | (refine ⟨⟨trivial, trivial⟩, ?_⟩) | (refine ⟨⟨rfl, rfl⟩, ?_⟩) | (refine Z5 rfl rfl ?_) | (refine Z8 rfl rfl ?_) | (refine Z6 ?_) | (refine Z9 ?_; simp only [tN, bN, eN, true_and]) | (apply Z7; exact rfl; exact rfl; exact Z1; simp only [pM, pN]) | refine Y1 ?_ | refine U7 ?_ | refine U8 ?_ | refine U9 ?_ | refine Y2 ?_ | ((first | refine Y3 ?_ | refine Y8 ?_); simp only [tN, bN, eN, true_and]) | (apply U4; exact Z1; exact rfl; simp only [pM, pN, rR, rP]) | (refine J3 rfl rfl ?_ ?_; exact Z2) | (refine J4 rfl rfl ?_ ?_; exact Z2; simp only [pM, pN, rR, rP]) | (apply U3; exact rfl; exact rfl; exact Z1; refine ⟨fun hh => ?_, fun hh => ?_⟩ <;> try simp only [Bool.not_true, Bool.not_false, pM, pN] at hh ⊢) | (apply U5; exact rfl; exact Z3; simp only [pM, pN, rR, rP]) | (simp only [tP, bP, eP, true_and]) | (refine Y7 ?_; simp only [tR, bR, eR, true_and]) | (refine Y9 ?_; simp only [tX, bS, bO, Nat.reduceBEq, tN, bN]) | (refine Y4 ?_ ?_; exact Z2) | (refine Y5 ?_ ?_; exact Z2) | (apply Y6; exact Z1; refine ⟨fun hh => ?_, fun hh => ?_⟩))
      all_goals simp only [resV_def (X := dX cQ) Tryz.func79, Tryz.results79, resultsV, resultV, go_sem, *, Nat.reduceLT, Int.reduceEq, Int.reduceBEq, Int.reduceLE, Int.reduceLT, Nat.reduceAdd, Nat.reduceBEq, Nat.reduceEqDiff, reduceIte, Nat.reduceLeDiff, Nat.reduceMul, Nat.reduceSub, reduceCtorEq, frzRes, dFrz, frzCells, isRet_ret, tupleOf]
  · cases h
def sp138 : List AV → Option AV
  | [a, .agg [.int .i64 x, .int .i64 y]] => (slV ptC a).map fun l => slN ((movedL l x y).map ptC.enc)
  | _ => none
theorem p138 : ∀ args v, sp138 args = some v → v.pur = true := by
  intro args v h
  unfold sp138 at h
  split at h
  · simp only [Option.map_eq_some_iff] at h
    obtain ⟨l, _, rfl⟩ := h
    exact slN_pur (enc_pur ptC _)
  · cases h
set_option maxHeartbeats 1000000 in
theorem F138 : IntrFn Tryz.prog 138 (pureFn sp138) := by
  refine pure_fn (X := dX cQ) cQ_sound p138 ?_
  intro args v h
  unfold sp138 at h
  split at h
  · rename_i a x y
    simp only [Option.map_eq_some_iff] at h
    obtain ⟨l, hl, rfl⟩ := h
    have hlen := sl_len hl
    have hout := sl_out hl
    have hmax := sl_max hl
    refine ClR.walk (c := _) rfl Tryz.func138 rfl (by kernel_rfl) rfl isRet_fail ?_
    simp only [entryEnv, Nat.reduceAdd]
    repeat' (first | refine Y1 ?_ | refine U7 ?_ | refine U8 ?_ | refine U9 ?_ | refine Y2 ?_ | ((first | refine Y3 ?_ | refine Y8 ?_); simp only [tN, bN, eN, true_and]) | (apply U4; exact Z1; exact rfl; simp only [pM, pN, rR, rP]) | (refine J3 rfl rfl ?_ ?_; exact Z2) | (refine J4 rfl rfl ?_ ?_; exact Z2; simp only [pM, pN, rR, rP]) | (apply U3; exact rfl; exact rfl; exact Z1; refine ⟨fun hh => ?_, fun hh => ?_⟩ <;> try simp only [Bool.not_true, Bool.not_false, pM, pN] at hh ⊢) | (apply U5; exact rfl; exact Z3; simp only [pM, pN, rR, rP]) | (simp only [tP, bP, eP, true_and]) | (refine Y7 ?_; simp only [tR, bR, eR, true_and]) | (refine Y9 ?_; simp only [tX, bS, bO, Nat.reduceBEq, tN, bN]) | (refine Y4 ?_ ?_; exact Z2) | (refine Y5 ?_ ?_; exact Z2) | (apply Y6; exact Z1; refine ⟨fun hh => ?_, fun hh => ?_⟩))
    refine W.loopN l.length (fun k F => ∃ e lm hp u, F = Fr.mk 138 false e lm hp [] none ∧ Blt hp u 2 ((movedL (l.take k) x y).map ptC.enc) ∧ lm.get 3 = some (0, [.int .i64 x, .int .i64 y]) ∧ e.get 3 = some (.lptr 3 0 0) ∧ e.get 5 = some u ∧ e.get 8 = some a ∧ e.get 9 = some (.int .i64 ↑l.length) ∧ e.get 10 = some (.int .i64 ↑k) ∧ k ≤ l.length) ?_ ?_
    · refine ⟨_, _, _, _, rfl, Blt.nil, ?_, ?_, ?_, ?_, ?_, ?_, ?_⟩ <;> first | exact Z2 | simp [go_sem, *]
    rintro k F ⟨e, lm, hp, u, rfl, hB, hl3, h3, h5, h8, h9, h10, hk⟩
    have hbo := hB.out
    by_cases hlt : k < l.length
    · obtain ⟨p, hp'⟩ := get_some hlt
      have hix := pts_idx hl hp'
      have hd : decide ((k : Int) < (l.length : Int)) = true := by simpa using hlt
      have hw := wrap_succ hlt hmax
      have hnx : movedL (l.take (k + 1)) x y = movedL (l.take k) x y ++ [⟨w64 (p.x + x), w64 (p.y + y)⟩] := by rw [take_next hp']; simp [movedL]
      have hll : ((movedL (l.take k) x y).map ptC.enc).length + 1 ≤ most := by
        simp only [movedL, List.length_map, List.length_take]; unfold most; unfold maxL at hmax; omega
      have HX := Lib.hid hnx
      clear hl hp' hnx
      repeat' (first | (apply WO1.append (t := 22) (u := 22) (e := 38) (e' := 38) (sz := 2) (tl := []); (focus assumption); exact Z1; exact rfl; exact Z2; exact Z2; exact Z2; (focus (exact ty_row22)); exact Z1; (focus (intro v hv; simp at hv; rcases hv with rfl | rfl <;> rfl)); (focus (simp only [List.length_cons, List.length_nil]; exact hll)); (focus (simp)); (intro v' h' hB' ho' hK'; simp only [pM, pN])) | refine Y1 ?_ | refine U7 ?_ | refine U8 ?_ | refine U9 ?_ | refine Y2 ?_ | ((first | refine Y3 ?_ | refine Y8 ?_); simp only [tN, bN, eN, true_and]) | (apply U4; exact Z1; exact rfl; simp only [pM, pN, rR, rP]) | (refine J3 rfl rfl ?_ ?_; exact Z2) | (refine J4 rfl rfl ?_ ?_; exact Z2; simp only [pM, pN, rR, rP]) | (apply U3; exact rfl; exact rfl; exact Z1; refine ⟨fun hh => ?_, fun hh => ?_⟩ <;> try simp only [Bool.not_true, Bool.not_false, pM, pN] at hh ⊢) | (apply U5; exact rfl; exact Z3; simp only [pM, pN, rR, rP]) | (simp only [tP, bP, eP, true_and]) | (refine Y7 ?_; simp only [tR, bR, eR, true_and]) | (refine Y9 ?_; simp only [tX, bS, bO, Nat.reduceBEq, tN, bN]) | (refine Y4 ?_ ?_; exact Z2) | (refine Y5 ?_ ?_; exact Z2) | (apply Y6; exact Z1; refine ⟨fun hh => ?_, fun hh => ?_⟩))
      refine ⟨hlt, _, _, _, v', rfl, ?_, ?_, ?_, ?_, ?_, ?_, ?_, by omega⟩
      · rw [HX.out]; simpa [ptC, w64] using hB'
      all_goals exact Z2
    · have hd : decide ((k : Int) < (l.length : Int)) = false := by simpa using hlt
      have hkl : k = l.length := by omega
      rw [hkl, List.take_length] at hB
      obtain ⟨h', hz, hz2, hz1⟩ := hB.freeze
      clear hkl hl
      repeat' (first | refine Y1 ?_ | refine U7 ?_ | refine U8 ?_ | refine U9 ?_ | refine Y2 ?_ | ((first | refine Y3 ?_ | refine Y8 ?_); simp only [tN, bN, eN, true_and]) | (apply U4; exact Z1; exact rfl; simp only [pM, pN, rR, rP]) | (refine J3 rfl rfl ?_ ?_; exact Z2) | (refine J4 rfl rfl ?_ ?_; exact Z2; simp only [pM, pN, rR, rP]) | (apply U3; exact rfl; exact rfl; exact Z1; refine ⟨fun hh => ?_, fun hh => ?_⟩ <;> try simp only [Bool.not_true, Bool.not_false, pM, pN] at hh ⊢) | (apply U5; exact rfl; exact Z3; simp only [pM, pN, rR, rP]) | (simp only [tP, bP, eP, true_and]) | (refine Y7 ?_; simp only [tR, bR, eR, true_and]) | (refine Y9 ?_; simp only [tX, bS, bO, Nat.reduceBEq, tN, bN]) | (refine Y4 ?_ ?_; exact Z2) | (refine Y5 ?_ ?_; exact Z2) | (apply Y6; exact Z1; refine ⟨fun hh => ?_, fun hh => ?_⟩))
      all_goals simp only [resV_def (X := dX cQ) Tryz.func138, Tryz.results138, resultsV, resultV, go_sem, *, Nat.reduceLT, Int.reduceEq, Int.reduceBEq, Int.reduceLE, Int.reduceLT, Nat.reduceAdd, Nat.reduceBEq, Nat.reduceEqDiff, reduceIte, Nat.reduceLeDiff, Nat.reduceMul, Nat.reduceSub, reduceCtorEq, frzRes, dFrz, frzCells, isRet_ret, tupleOf]
  · cases h
end Go.AM
set_option maxRecDepth 100000
namespace Go.AM
open Go Go.Proofs
variable [Keep]
attribute [local irreducible] W WO WO1 WD WQ WT thenQ blockQ endR isRet retK Cl ClR
def stepB (w : Sp) (l : List Int) (k : Nat) : Bool := inB (w64 (l.getD (k + 1) 0 - l.getD k 0)) w.lo w.hi
def rdgF (r : Rdg) (xs ys : List Int) : Bool := inB (w64 (xs.getD r.b.toNat 0 - r.x)) (w64 (-r.err)) r.err && inB (w64 (ys.getD r.b.toNat 0 - r.y)) (w64 (-r.err)) r.err
def fitsR (cx cy wx wy : Sp) (rs : List Rdg) (xs ys : List Int) : Bool :=
  (inB (xs.getD 0 0) cx.lo cx.hi && inB (ys.getD 0 0) cy.lo cy.hi) && ((List.range 12).all (fun k => stepB wx xs k && stepB wy ys k) && rs.all (fun r => rdgF r xs ys))
end Go.AM
set_option maxRecDepth 100000
namespace Go.AM
open Go Go.Proofs
variable [Keep]
attribute [local irreducible] W WO WO1 WD WQ WT thenQ blockQ endR isRet retK Cl ClR
def inL (l : List Int) (m : Lim) : Bool := inB (l.getD m.b.toNat 0) m.lo m.hi
def fitsA (ax : Ax) (l : List Int) : Bool := inB (l.getD 0 0) ax.chuck.lo ax.chuck.hi && ((List.range 12).all (fun k => stepB ax.wear l k) && ax.limits.all (inL l))
def isFit (h : Heap) (b : Bool) (r : COut) : Prop := ∃ h', HExt h h' ∧ r = .ret (.bool b) h' none
attribute [local irreducible] isFit
theorem RdL.ext {h h' : Heap} {v : AV} {l : List Lim} (r : RdL h v l) (e : HExt h h') : RdL h' v l :=
  ⟨r.len, r.out, r.max, r.one, r.tup, fun k m hk hp hq => r.get k m hk hp (fun id hi => (hq id (Nat.lt_of_lt_of_le hi e.1)).trans (e.2 id hi))⟩
end Go.AM
set_option maxRecDepth 100000
namespace Go.AM
open Go Go.Proofs
variable [Keep]
attribute [local irreducible] W WO WO1 WD WQ WT thenQ blockQ endR isRet retK Cl ClR
attribute [local irreducible] boundsS machB
section
variable {X : Ctx} {f : FuncId} {ops : Array Oper} {ts : List (Nat × Trace)} {i k : Nat} {r : List (Nat × Nat)} {x : Oper} {d : Option Tmp} {op : Op} {T : TypeId} {ps : String} {af : Array Edge}
    {f1 f2 : FuncId} {r1 r2 : Bool} {e1 e2 : Mp AV} {lm1 lm2 : Mp (Nat × List AV)} {hp1 hp2 : Heap} {df1 df2 : List (AV × List AV)} {up1 up2 : Option (AV × Bool)} {v1 v2 : AV} {a1 a2 : Fr} {j : Nat} {want b : Bool} {o : Oper} {s : Tmp}
end
def fitsM (cx cy wx wy : Sp) (rs : List Rdg) (xs ys : List Int) : Bool := fitsA ⟨cx, wx, lims155 rs⟩ xs && fitsA ⟨cy, wy, lims156 rs⟩ ys
end Go.AM
namespace Go.AM
open Go
variable [Keep]
end Go.AM
set_option maxRecDepth 100000
namespace Go.AM
open Go Go.Proofs
variable [Keep]
attribute [local irreducible] W WO WO1 WD WQ WT thenQ blockQ endR isRet retK Cl ClR
attribute [local irreducible] boundsS machB fitsM fitsR truthB
theorem K138 {X : Ctx} (hX : X.intr 138 = some (pureFn sp138)) (a : AV) (l : List Pt) (x y : Int) (ha : slV ptC a = some l) (h : Heap) : Cl X 138 [a, .agg [.int .i64 x, .int .i64 y]] h (.ret (slN ((movedL l x y).map ptC.enc)) h none) :=
  Cl.intr hX (by simp [pureFn, AV.pur, AV.purL, sl_pur ha, sp138, ha])
theorem K79 {X : Ctx} (hX : X.intr 79 = some (pureFn sp79)) (a : AV) (l : List Pt) (x y : Int) (ha : slV ptC a = some l) (h : Heap) : Cl X 79 [a, .int .i64 x, .int .i64 y] h (.ret (slN ((movedL l x y).map ptC.enc)) h none) :=
  Cl.intr hX (by simp [pureFn, AV.pur, AV.purL, sl_pur ha, sp79, ha])
end Go.AM
