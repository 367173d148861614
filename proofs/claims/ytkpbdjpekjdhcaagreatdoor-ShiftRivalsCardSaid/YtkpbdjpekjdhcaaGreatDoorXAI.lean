/-
  A part of the proof: contracts of functions.
-/
import Derived.Test.YtkpbdjpekjdhcaaGreatDoorXAH
import Derived.Test.YtkpbdjpekjdhcaaGreatDoorXAD
import Derived.Test.YtkpbdjpekjdhcaaGreatDoorXAG
set_option linter.unusedSectionVars false
set_option linter.unusedVariables false
set_option linter.unusedSimpArgs false
set_option maxRecDepth 100000
namespace Go.AM
open Go Go.Proofs
variable [Keep]
attribute [local irreducible] W WO WO1 WD WQ WT thenQ blockQ endR isRet retK Cl ClR
open Go.TX (Rm Fa Ha Hs textH smallH smallP matchF fRoom fFan fHand fHouse fOpen rmOf faOf haOf stepP foldF foldF_app readP wHouse wRoom wMake wWait wStart wFan wOpen wHand match_small stepP_small)
theorem viewD_hs {h : Heap} {n : Int} {ra fa oa ha ra' fa' oa' ha' : AV} (h1 : viewV h ra = some ra') (h2 : viewV h fa = some fa') (h3 : viewV h oa = some oa') (h4 : viewV h ha = some ha') :
  viewD h (.agg [.int .i64 n, ra, fa, oa, ha]) = some (.agg [.int .i64 n, ra', fa', oa', ha']) := by
 have e : ∀ n, viewV h (.int .i64 n) = some (.int .i64 n) := fun n => rfl
 simp only [viewD, viewVs, h1, h2, h3, h4, e, Option.map_some]
theorem Blt.viewS {h : Heap} {v : AV} {sz : Nat} {l : List AV} (b : Blt h v sz l) (hp : ∀ a ∈ l, a.pur = true) : viewV h v = some (slN l) := by
 rcases b with ⟨rfl, rfl⟩ | ⟨id, rfl, hg, h3, hne⟩
 ·rfl
 ·have h1 : AV.purL l = true := purL_of hp
  cases l with
  | nil => exact absurd rfl hne
  | cons x l => simp [viewV, hg, h1, slN]
theorem SeeV.blt {α : Type} {c : Cd α} {a : AV} {sz : Nat} {l : List α} {h : Heap} (b : Blt h a sz (l.map c.enc)) (hl : l.length <= maxL) : SeeV h c a l :=
 ⟨_, b.viewS (enc_pur c l), slV_slN hl⟩
def hsE (m : Hs) : AV := .agg [.int .i64 m.hours, slN (m.rooms.map rmC.enc), slN (m.fans.map faC.enc), slN (intsE m.op), slN (m.hands.map haC.enc)]
def readR (s : List UInt8) (h : Heap) (r : COut) : Prop := ∃ h', HExt h h' /\ match readP s with | some m => r = .ret (hsE m) h' none | none => ∃ u, r = .pan (.iface 207 (.agg [.str u])) h' none
section
variable {s u : List UInt8} {h h' : Heap} {m : Hs}
end
def restP (s : List UInt8) : List (List UInt8) := ((spL 10 s).drop 1).take ((spL 10 s).length - 3)
theorem ints_sl (l : List Int) (h : l.length <= maxL) : slV intC (slN (intsE l)) = some l := slV_slN (c := intC) h
theorem BltN.afterFrz {b : Nat} {h h' : Heap} {u v w : AV} {sz : Nat} {l : List AV} (q : BltN b h v sz l) (f : frz1 h u = some (w, h')) (e : h'.next = h.next) (_p : ∀ id, id < b -> h'.get id = h.get id) (s : SepV v u) : BltN b h' v sz l := by
 rcases q with q | ⟨id, rfl, h2, h3, h4, h5⟩
 ·exact .inl q
 ·refine .inr ⟨id, rfl, ?_, h3, by rw [e]; exact h4, h5⟩
  unfold frz1 at f
  split at f
  ·rename_i j off len
   split at f
   ·split at f
    ·cases f
     have : ¬ j = id := fun q => s id _ _ off len rfl (by rw [q])
     simpa [Heap.get, Heap.del, this] using h2
    ·cases f
   ·cases f
  ·cases f
   exact h2
theorem BltN.parts {b : Nat} {h : Heap} {v : AV} {sz : Nat} {l : List AV} (q : BltN b h v sz l) : outV (some v) = some v /\ v.cells = [v] /\ isTuple v = false := ⟨q.blt.out, q.blt.cells, q.blt.tup⟩
attribute [local irreducible] readP readR matchF fOpen stepP foldF textH restP
end Go.AM
namespace Go.AM
open Go Go.Proofs
variable [Keep]
attribute [local irreducible] W WO WO1 WD WQ WT thenQ blockQ endR isRet retK Cl ClR
open Go.TX (Hs readP textH)
attribute [local irreducible] DefR
theorem eql_nn : binV Tryz.prog .eql 20 true .niliface .niliface = some (.bool true) := by kernel_rfl
theorem eql_in (t : TypeId) (v : AV) : binV Tryz.prog .eql 20 true (.iface t v) .niliface = some (.bool false) := by kernel_rfl
theorem as_205 (n : Int) : assertV Tryz.prog (.iface 205 (.agg [.int .i64 n])) 205 true = some (.tuple [.agg [.int .i64 n], .bool true]) := by
 simp [assertV, Tryz.underlying205]
section
variable (c : Itr)
theorem D155n (b n : Nat) (m : Mp Blk) (Q : Heap -> Option AV -> Prop) (q : Q ⟨n, m⟩ none) : DefR (dX c) [(.func (.func 155) [] [.ptr b 0], [])] ⟨n, m⟩ none Q := by
 have q := J1 q
 have hq1 := eql_nn
 have hq2 := eql_in
 refine DefR.cons (g := 155) (X := dX c) Tryz.func155 (by kernel_rfl) rfl (by kernel_rfl) rfl ?_
 simp only [entryEnv, Nat.reduceAdd, List.nil_append, List.append_nil, Option.map_none]
 repeat' (first | (apply U5; exact rfl; (focus (intro cl rd; simp only [go_sem, *, Nat.reduceLT, Int.reduceEq, Int.reduceBEq, Int.reduceLE, Int.reduceLT, Nat.reduceAdd, Nat.reduceBEq, Nat.reduceEqDiff, reduceIte, Nat.reduceLeDiff, Nat.reduceMul, Nat.reduceSub, reduceCtorEq, efV, Fr.callOp, Fr.builtinE, Fr.recoverE, reduceIte, Bool.false_eq_true]; with_reducible rfl)); simp only [pM, pN]) | (simp only [endDef_norm]) | refine go1 ?_ | (refine go2 ?_ ?_ <;> intro hh) | fail)
 refine DefR.nil ?_
 exact q.out
theorem D155w (b n : Nat) (m : Mp Blk) (x z : Int) (Q : Heap -> Option AV -> Prop) (hg : m.get b = some (.var [.int .i64 z])) (q : ∀ m', (∀ id, id ≠ b -> m'.get id = m.get id) -> m'.get b = some (.var [.int .i64 2]) -> Q ⟨n, m'⟩ none) :
  DefR (dX c) [(.func (.func 155) [] [.ptr b 0], [])] ⟨n, m⟩ (some (.iface 205 (.agg [.int .i64 x]))) Q := by
 have q := J1 q
 have hq1 := eql_nn
 have hq2 := eql_in
 have hq3 := as_205
 refine DefR.cons (g := 155) (X := dX c) Tryz.func155 (by kernel_rfl) rfl (by kernel_rfl) rfl ?_
 simp only [entryEnv, Nat.reduceAdd, List.nil_append, List.append_nil, Option.map_some]
 repeat' (first | (apply U5; exact rfl; (focus (intro cl rd; simp only [go_sem, *, Nat.reduceLT, Int.reduceEq, Int.reduceBEq, Int.reduceLE, Int.reduceLT, Nat.reduceAdd, Nat.reduceBEq, Nat.reduceEqDiff, reduceIte, Nat.reduceLeDiff, Nat.reduceMul, Nat.reduceSub, reduceCtorEq, efV, Fr.callOp, Fr.builtinE, Fr.recoverE, reduceIte, Bool.false_eq_true]; with_reducible rfl)); simp only [pM, pN]) | (simp only [endDef_norm]) | refine go1 ?_ | (refine go2 ?_ ?_ <;> intro hh) | fail)
 refine DefR.nil ?_
 refine q.out _ (fun id hid => ?_) ?_
 ·have e1 : (b == id) = false := by rw [beq_eq_false_iff_ne]; exact Ne.symm hid
  simp only [go_sem, *, Nat.reduceLT, Int.reduceEq, Int.reduceBEq, Int.reduceLE, Int.reduceLT, Nat.reduceAdd, Nat.reduceBEq, Nat.reduceEqDiff, reduceIte, Nat.reduceLeDiff, Nat.reduceMul, Nat.reduceSub, reduceCtorEq]
 ·simp only [go_sem, *, Nat.reduceLT, Int.reduceEq, Int.reduceBEq, Int.reduceLE, Int.reduceLT, Nat.reduceAdd, Nat.reduceBEq, Nat.reduceEqDiff, reduceIte, Nat.reduceLeDiff, Nat.reduceMul, Nat.reduceSub, reduceCtorEq]
def tryR (h : Heap) (h1 : Heap) (z : Int) (r : COut) : Prop := ∃ h2, r = .ret (.int .i64 z) h2 none /\ h2.next = h1.next /\ ∀ id, id ≠ h.next -> h2.get id = h1.get id
theorem C111n (hc : c 111 = none) (g : FuncId) (caps : List AV) (hn : Nat) (hm : Mp Blk) (zn : Nat) (zm : Mp Blk) (z : Int) (hcl : Cl (dX c) g caps ⟨hn + 1, hm.set hn (.var [.int .i64 0])⟩ (.ret (.tuple []) ⟨zn, zm⟩ none)) (hg : zm.get hn = some (.var [.int .i64 z])) :
  ClR (dX c) 111 [.func (.func g) [] caps] ⟨hn, hm⟩ (tryR ⟨hn, hm⟩ ⟨zn, zm⟩ 0) := by
 refine ClR.walkD (c := _) hc Tryz.func111 rfl (by kernel_rfl) rfl ?_
 simp only [entryEnv, Nat.reduceAdd]
 repeat' (first | (apply U5; exact rfl; (focus (intro cl rd; simp only [go_sem, *, Nat.reduceLT, Int.reduceEq, Int.reduceBEq, Int.reduceLE, Int.reduceLT, Nat.reduceAdd, Nat.reduceBEq, Nat.reduceEqDiff, reduceIte, Nat.reduceLeDiff, Nat.reduceMul, Nat.reduceSub, reduceCtorEq, efV, Fr.deferE]; with_reducible rfl)); simp only [pM, pN]) | (refine Y7 ?_; simp only [endD_ret]) | refine go1 ?_ | (apply U6; exact Z1; exact Z1; (exact hcl); simp only [pM, pN, rR, rP]) | (refine go2 ?_ ?_ <;> intro hh) | fail)
 refine D155n c _ _ _ _ ?_
 refine afterD_none.2 ?_
 (simp only [resV_def (X := dX c) Tryz.func111, Tryz.results111]; first | exact J5 | refine J6 ?_)
 refine ⟨_, rfl, rfl, fun id hid => ?_⟩
 have e1 : (hn == id) = false := by rw [beq_eq_false_iff_ne]; exact Ne.symm hid
 simp only [go_sem, *, Nat.reduceLT, Int.reduceEq, Int.reduceBEq, Int.reduceLE, Int.reduceLT, Nat.reduceAdd, Nat.reduceBEq, Nat.reduceEqDiff, reduceIte, Nat.reduceLeDiff, Nat.reduceMul, Nat.reduceSub, reduceCtorEq]
theorem C111w (hc : c 111 = none) (g : FuncId) (caps : List AV) (hn : Nat) (hm : Mp Blk) (zn : Nat) (zm : Mp Blk) (x z : Int) (hcl : Cl (dX c) g caps ⟨hn + 1, hm.set hn (.var [.int .i64 0])⟩ (.pan (.iface 205 (.agg [.int .i64 x])) ⟨zn, zm⟩ none)) (hg : zm.get hn = some (.var [.int .i64 z])) :
  ClR (dX c) 111 [.func (.func g) [] caps] ⟨hn, hm⟩ (tryR ⟨hn, hm⟩ ⟨zn, zm⟩ 2) := by
 refine ClR.walkD (c := _) hc Tryz.func111 rfl (by kernel_rfl) rfl ?_
 simp only [entryEnv, Nat.reduceAdd]
 repeat' (first | (apply U5; exact rfl; (focus (intro cl rd; simp only [go_sem, *, Nat.reduceLT, Int.reduceEq, Int.reduceBEq, Int.reduceLE, Int.reduceLT, Nat.reduceAdd, Nat.reduceBEq, Nat.reduceEqDiff, reduceIte, Nat.reduceLeDiff, Nat.reduceMul, Nat.reduceSub, reduceCtorEq, efV, Fr.deferE]; with_reducible rfl)); simp only [pM, pN]) | (simp only [endD_pan]) | refine go1 ?_ | (apply U6; exact Z1; exact Z1; (exact hcl); simp only [pM, pN, rR, rP]) | (refine go2 ?_ ?_ <;> intro hh) | fail)
 refine D155w c _ _ _ _ _ _ hg fun m' q1 q2 => afterD_none.2 ?_
 (simp only [resV_def (X := dX c) Tryz.func111, Tryz.results111]; first | exact J5 | refine J6 ?_)
 exact ⟨_, rfl, rfl, q1⟩
end
def zeroH : AV := .agg [.int .i64 0, .nilslice, .nilslice, .nilslice, .nilslice]
def rdV41 (s : List UInt8) : AV :=
 if 500 < s.length then .tuple [zeroH, .int .i64 3]
 else match readP s with
  | none => .tuple [zeroH, .int .i64 4]
  | some m => if houseB m = true then .tuple [hsE m, .int .i64 0] else .tuple [zeroH, .int .i64 2]
theorem K82 {X : Ctx} (hX : X.intr 82 = some (flatFnD sp82)) {ra fa oa ha : AV} {m : Hs} {h : Heap} (h1 : SeeV h rmC ra m.rooms) (h2 : SeeV h faC fa m.fans) (h3 : SeeV h intC oa m.op) (h4 : SeeV h haC ha m.hands) :
  Cl X 82 [.agg [.int .i64 m.hours, ra, fa, oa, ha]] h (.ret (.bool (houseB m)) h none) := by
 obtain ⟨ra', v1, s1⟩ := h1
 obtain ⟨fa', v2, s2⟩ := h2
 obtain ⟨oa', v3, s3⟩ := h3
 obtain ⟨ha', v4, s4⟩ := h4
 exact Cl.intr hX (by simp only [flatFnD, viewDs, viewD_hs v1 v2 v3 v4, sp82, hsV, s1, s2, s3, s4, Option.map_some])
attribute [local irreducible] readP readR houseB textH rdV41 tryR
theorem w64_small {n : Int} (h1 : -4611686018427387904 <= n) (h2 : n <= 4611686018427387904) : w64 n = n := wrap_small h1 h2
structure HOk (m : Hs) : Prop where
 hours : 1 <= m.hours /\ m.hours <= 4
 rooms : 1 <= m.rooms.length /\ m.rooms.length <= 3
 fans : m.fans.length <= 4
 hands : 1 <= m.hands.length /\ m.hands.length <= 4
 op : (m.op.length : Int) = m.hours
 room : ∀ r ∈ m.rooms, 0 <= r.lo /\ r.lo <= r.hi /\ r.hi <= 50 /\ (0 <= r.mke /\ r.mke <= 1000) /\ (0 <= r.wt /\ r.wt <= 4) /\ (0 <= r.stt /\ r.stt <= 50)
 fan : ∀ f ∈ m.fans, 0 <= f.room /\ f.room < m.rooms.length /\ 0 <= f.draws /\ f.draws <= 50
 set : ∀ x ∈ m.op, 0 <= x /\ x < 2 ^ m.rooms.length
 hand : ∀ x ∈ m.hands, (0 <= x.limit /\ x.limit <= 2000) /\ (0 <= x.most /\ x.most <= 4)
theorem inB_is {x lo hi : Int} (h : inB x lo hi = true) : lo <= x /\ x <= hi := by
 unfold inB at h
 simp only [Bool.and_eq_true, decide_eq_true_eq] at h
 omega
theorem house_ok {m : Hs} (h : houseB m = true) : HOk m := by
 unfold houseB at h
 simp only [Bool.and_eq_true, Bool.not_eq_true', beq_iff_eq, decide_eq_true_eq, List.any_eq_false, Bool.not_eq_true, Bool.not_eq_false'] at h
 obtain ⟨⟨⟨⟨⟨⟨⟨⟨h1, h2⟩, h3⟩, h4⟩, h5⟩, h6⟩, h7⟩, h8⟩, h9⟩ := h
 have i2 := inB_is h2
 have i4 := inB_is h4
 have hn : m.rooms.length <= 3 := by omega
 refine ⟨inB_is h1, by omega, by omega, by omega, h5, fun r hr => ?_, fun f hf => ?_, fun x hx => ?_, fun x hx => ?_⟩
 ·have := h6 r hr
  unfold roomB at this
  simp only [Bool.not_eq_false, Bool.and_eq_true, Bool.not_eq_true', decide_eq_false_iff_not] at this
  have a1 := inB_is this.1.1.2
  have a2 := inB_is this.1.2
  have a3 := inB_is this.2
  omega
 ·have := h7 f hf
  unfold fanB at this
  simp only [Bool.not_eq_false, Bool.and_eq_true] at this
  have a1 := inB_is this.1
  have a2 := inB_is this.2
  rw [w64_small (by omega) (by omega)] at a1
  omega
 ·have := h8 x hx
  unfold setB at this
  simp only [Bool.not_eq_false] at this
  have a1 := inB_is this
  have e : min m.rooms.length 64 = m.rooms.length := by omega
  have hp : (2 : Int) ^ m.rooms.length <= 8 := by
   have : m.rooms.length = 1 \/ m.rooms.length = 2 \/ m.rooms.length = 3 := by omega
   rcases this with q | q | q <;> rw [q] <;> decide
  have hp0 : (0 : Int) < (2 : Int) ^ m.rooms.length := by
   have : m.rooms.length = 1 \/ m.rooms.length = 2 \/ m.rooms.length = 3 := by omega
   rcases this with q | q | q <;> rw [q] <;> decide
  rw [e, w64_small (n := 2 ^ m.rooms.length) (by omega) (by omega), w64_small (by omega) (by omega)] at a1
  omega
 ·have := h9 x hx
  unfold handB at this
  simp only [Bool.not_eq_false, Bool.and_eq_true] at this
  exact ⟨inB_is this.1, inB_is this.2⟩
end Go.AM
namespace Go.AM
open Go Go.Proofs
variable [Keep]
attribute [local irreducible] W WO WO1 WD WQ WT thenQ blockQ endR isRet retK Cl ClR
open Go.TX (Rm Fa Ha Hs)
inductive Fl where
 | no
 | fan (n h : Int)
 | mach (n h : Int)
def Fl.enc : Fl -> AV
 | .no => .iface 196 (.agg [])
 | .fan n h => .iface 198 (.agg [.int .i64 n, .int .i64 h])
 | .mach n h => .iface 199 (.agg [.int .i64 n, .int .i64 h])
def flV : AV -> Option Fl
 | .iface 196 (.agg []) => some .no
 | .iface 198 (.agg [.int .i64 n, .int .i64 h]) => some (.fan n h)
 | .iface 199 (.agg [.int .i64 n, .int .i64 h]) => some (.mach n h)
 | _ => none
theorem flV_is {a : AV} {f : Fl} (h : flV a = some f) : a = f.enc := by
 unfold flV at h
 split at h <;> cases h <;> rfl
theorem flV_enc (f : Fl) : flV f.enc = some f := by cases f <;> rfl
theorem fl_parts (f : Fl) : outV (some f.enc) = some f.enc /\ f.enc.cells = [f.enc] /\ isTuple f.enc = false /\ f.enc.pur = true := by cases f <;> exact ⟨rfl, rfl, rfl, rfl⟩
def drawsB : Fl -> Int -> Int -> Bool
 | .no, _, _ => true
 | .fan n h, i, hour => (i != n) || decide (hour < h)
 | .mach _ _, _, _ => true
def standsB : Fl -> Int -> Int -> Int -> Bool
 | .mach n h, wt, room, hour => (room == n) && inB hour h (w64 (w64 (h + wt) - 1))
 | _, _, _, _ => false
section
variable (c : Itr)
theorem C237 (hc : c 237 = none) (a b : Int) (h : Heap) : Cl (dX c) 237 [.agg [], .int .i64 a, .int .i64 b] h (.ret (.bool true) h none) := by
 refine ClR.cl ?_
 refine ClR.walk (c := _) hc Tryz.func237 rfl (by kernel_rfl) rfl (fun e => by cases e) ?_
 simp only [entryEnv, Nat.reduceAdd]
 repeat' (first | refine goS ?_ | (refine go2 ?_ ?_ <;> intro hh) | fail)
 all_goals (simp only [resV_def (X := dX c) Tryz.func237, Tryz.results237]; first | exact J5 | refine J6 ?_)
 all_goals rfl
theorem C241 (hc : c 241 = none) (x y a b : Int) (h : Heap) : Cl (dX c) 241 [.agg [.int .i64 x, .int .i64 y], .int .i64 a, .int .i64 b] h (.ret (.bool true) h none) := by
 refine ClR.cl ?_
 refine ClR.walk (c := _) hc Tryz.func241 rfl (by kernel_rfl) rfl (fun e => by cases e) ?_
 simp only [entryEnv, Nat.reduceAdd]
 repeat' (first | refine goS ?_ | (refine go2 ?_ ?_ <;> intro hh) | fail)
 all_goals (simp only [resV_def (X := dX c) Tryz.func241, Tryz.results241]; first | exact J5 | refine J6 ?_)
 all_goals rfl
theorem C239 (hc : c 239 = none) (x y a b : Int) (h : Heap) : Cl (dX c) 239 [.agg [.int .i64 x, .int .i64 y], .int .i64 a, .int .i64 b] h (.ret (.bool ((a != x) || decide (b < y))) h none) := by
 refine ClR.cl ?_
 by_cases hq : (a != x) = true
 ·refine ClR.walk (c := _) hc Tryz.func239 rfl (by kernel_rfl) rfl (fun e => by cases e) ?_
  simp only [entryEnv, Nat.reduceAdd]
  repeat' (first | refine goS ?_ | (refine go2 ?_ ?_ <;> intro hh) | fail)
  all_goals (simp only [resV_def (X := dX c) Tryz.func239, Tryz.results239]; first | exact J5 | refine J6 ?_)
  all_goals simp [isR, frzRes, dX_frz, dFrz, hq]
 ·have hq : (a != x) = false := by simpa using hq
  refine ClR.walk (c := _) hc Tryz.func239 rfl (by kernel_rfl) rfl (fun e => by cases e) ?_
  simp only [entryEnv, Nat.reduceAdd]
  repeat' (first | refine goS ?_ | (refine go2 ?_ ?_ <;> intro hh) | fail)
  all_goals (simp only [resV_def (X := dX c) Tryz.func239, Tryz.results239]; first | exact J5 | refine J6 ?_)
  all_goals simp [isR, frzRes, dX_frz, dFrz, hq]
theorem C238 (hc : c 238 = none) (z0 z1 z2 z3 z4 : AV) (a b : Int) (h : Heap) : Cl (dX c) 238 [.agg [], .agg [z0, z1, z2, z3, z4], .int .i64 a, .int .i64 b] h (.ret (.bool false) h none) := by
 refine ClR.cl ?_
 refine ClR.walk (c := _) hc Tryz.func238 rfl (by kernel_rfl) rfl (fun e => by cases e) ?_
 simp only [entryEnv, Nat.reduceAdd]
 repeat' (first | refine goS ?_ | (refine go2 ?_ ?_ <;> intro hh) | fail)
 all_goals (simp only [resV_def (X := dX c) Tryz.func238, Tryz.results238]; first | exact J5 | refine J6 ?_)
 all_goals rfl
theorem C240 (hc : c 240 = none) (x y : Int) (z0 z1 z2 z3 z4 : AV) (a b : Int) (h : Heap) : Cl (dX c) 240 [.agg [.int .i64 x, .int .i64 y], .agg [z0, z1, z2, z3, z4], .int .i64 a, .int .i64 b] h (.ret (.bool false) h none) := by
 refine ClR.cl ?_
 refine ClR.walk (c := _) hc Tryz.func240 rfl (by kernel_rfl) rfl (fun e => by cases e) ?_
 simp only [entryEnv, Nat.reduceAdd]
 repeat' (first | refine goS ?_ | (refine go2 ?_ ?_ <;> intro hh) | fail)
 all_goals (simp only [resV_def (X := dX c) Tryz.func240, Tryz.results240]; first | exact J5 | refine J6 ?_)
 all_goals rfl
theorem C242 (hc : c 242 = none) (hc1 : c 102 = some (pureFn sp102)) (x y : Int) (z0 ra z2 z3 z4 : AV) (rs : List Rm) (hr : slV rmC ra = some rs) (a : Nat) (b : Int) (p : Rm) (hp : rs[a]? = some p) (h : Heap) :
  Cl (dX c) 242 [.agg [.int .i64 x, .int .i64 y], .agg [z0, ra, z2, z3, z4], .int .i64 (a : Int), .int .i64 b] h (.ret (.bool (((a : Int) == x) && inB b y (w64 (w64 (y + p.wt) - 1)))) h none) := by
 refine ClR.cl ?_
 have hix := fun H => rms_idx hr hp H
 have hout := sl_out hr
 have k102 := fun u v w h => K102 (X := dX c) hc1 u v w h
 clear hr hp
 by_cases hq : ((a : Int) == x) = true
 ·refine ClR.walk (c := _) hc Tryz.func242 rfl (by kernel_rfl) rfl (fun e => by cases e) ?_
  simp only [entryEnv, Nat.reduceAdd]
  repeat' (first | (apply W.drawQ (id := 1) (l1 := [0, 1, 2, 3, 4, 5, 6, 7, 8, 9, 10, 11, 12, 13, 14, 15, 16, 17, 18, 19, 20]) (l2 := []); kernel_rfl; kernel_rfl; kernel_rfl; exact Z4) | refine go1 ?_ | (apply U6; exact Z1; exact Z1; (exact k102 _ _ _ _); simp only [pM, pN, rR, rP]) | (refine go2 ?_ ?_ <;> intro hh) | fail)
  all_goals (simp only [resV_def (X := dX c) Tryz.func242, Tryz.results242]; first | exact J5 | refine J6 ?_)
  all_goals simp [isR, frzRes, dX_frz, dFrz, hq, w64]
 ·have hq : ((a : Int) == x) = false := by simpa using hq
  refine ClR.walk (c := _) hc Tryz.func242 rfl (by kernel_rfl) rfl (fun e => by cases e) ?_
  simp only [entryEnv, Nat.reduceAdd]
  repeat' (first | (apply W.drawQ (id := 1) (l1 := [0, 1, 2, 3, 4, 5, 6, 7, 8, 9, 10, 11, 12, 13, 14, 15, 16, 17, 18, 19, 20]) (l2 := []); kernel_rfl; kernel_rfl; kernel_rfl; exact Z4) | refine go1 ?_ | (apply U6; exact Z1; exact Z1; (exact k102 _ _ _ _); simp only [pM, pN, rR, rP]) | (refine go2 ?_ ?_ <;> intro hh) | fail)
  all_goals (simp only [resV_def (X := dX c) Tryz.func242, Tryz.results242]; first | exact J5 | refine J6 ?_)
  all_goals simp [isR, frzRes, dX_frz, dFrz, hq, w64]
end
def rm0 : Rm := ⟨0, 0, 0, 0, 0⟩
def runsB (m : Hs) (f : Fl) (r k : Nat) : Bool := hasB (m.op.getD k 0) r && !standsB f (m.rooms.getD r rm0).wt r k
set_option maxHeartbeats 1000000 in
theorem C149 (c : Itr) (hc : c 149 = none) (hc1 : c 102 = some (pureFn sp102)) (hc2 : c 89 = some (pureFn sp89)) (hc3 : c 238 = none) (hc4 : c 240 = none) (hc5 : c 242 = none) (m : Hs) (f : Fl) (ra fa oa ha : AV) (hr : slV rmC ra = some m.rooms) (ho : slV intC oa = some m.op) (r k : Nat) (hrl : r < m.rooms.length) (hkl : k < m.op.length)
  (ofa : outV (some fa) = some fa /\ outV (some ha) = some ha) (h : Heap) :
  Cl (dX c) 149 [.agg [.int .i64 m.hours, ra, fa, oa, ha, f.enc], .int .i64 (r : Int), .int .i64 (k : Int)] h (.ret (.bool (runsB m f r k)) h none) := by
 refine ClR.cl ?_
 obtain ⟨p, hp⟩ := get_some hrl
 obtain ⟨s, hs⟩ := get_some hkl
 have hgp : m.rooms.getD r rm0 = p := by simp [List.getD, hp]
 have hgs : m.op.getD k 0 = s := by simp [List.getD, hs]
 have hR : runsB m f r k = (hasB s r && !standsB f p.wt r k) := by unfold runsB; rw [hgp, hgs]
 rw [hR]
 have hix := fun H => ints_idx ho hs H
 have o1 := sl_out hr
 have o3 := sl_out ho
 obtain ⟨o2, o4⟩ := ofa
 have k89 := fun h => K89 (X := dX c) hc2 s r (by omega) h
 have kst : ∃ gS t u, f.enc = .iface t u /\ methodOf Tryz.prog t "nacre/shift.stands" = some gS /\ ∀ h, Cl (dX c) gS [u, .agg [.int .i64 m.hours, ra, fa, oa, ha], .int .i64 (r : Int), .int .i64 (k : Int)] h (.ret (.bool (standsB f p.wt r k)) h none) := by
  cases f with
  | no => exact ⟨238, 196, .agg [], rfl, by kernel_rfl, fun h => C238 c hc3 _ _ _ _ _ _ _ h⟩
  | fan x y => exact ⟨240, 198, _, rfl, by kernel_rfl, fun h => C240 c hc4 _ _ _ _ _ _ _ _ _ h⟩
  | mach x y => exact ⟨242, 199, _, rfl, by kernel_rfl, fun h => C242 c hc5 hc1 _ _ _ _ _ _ _ _ hr _ _ _ hp h⟩
 obtain ⟨gS, tS, uS, hfe, hme, kst⟩ := kst
 rw [hfe]
 generalize standsB f p.wt r k = sb at *
 generalize hasB s r = hb at *
 clear hr ho hp hs hgp hgs hR hfe
 cases hb with
 | false =>
  refine ClR.walk (c := _) hc Tryz.func149 rfl (by kernel_rfl) rfl (fun e => by cases e) ?_
  simp only [entryEnv, Nat.reduceAdd]
  repeat' (first | refine goS ?_ | (apply U6; exact Z1; exact Z1; (exact k89 _); simp only [pM, pN, rR, rP]) | (refine go2 ?_ ?_ <;> intro hh) | fail)
  all_goals (simp only [resV_def (X := dX c) Tryz.func149, Tryz.results149]; first | exact J5 | refine J6 ?_)
  all_goals rfl
 | true =>
  have kst := kst h
  refine ClR.walk (c := _) hc Tryz.func149 rfl (by kernel_rfl) rfl (fun e => by cases e) ?_
  simp only [entryEnv, Nat.reduceAdd]
  repeat' (first | (apply WO1.invoke (g := gS); exact Z1; exact Z1; (focus (exact hme)); (focus (exact kst)); simp only [pM, pN, rR, rP]) | refine go1 ?_ | (apply U6; exact Z1; exact Z1; (exact k89 _); simp only [pM, pN, rR, rP]) | (refine go2 ?_ ?_ <;> intro hh) | fail)
  all_goals (simp only [resV_def (X := dX c) Tryz.func149, Tryz.results149]; first | exact J5 | refine J6 ?_)
  all_goals rfl
def drawnP (m : Hs) (f : Fl) (r k : Nat) : Nat -> List Int
 | 0 => []
 | j + 1 => match m.fans[j]? with
  | some x => if ((x.room == (r : Int)) && drawsB f j k) = true then drawnP m f r k j ++ [x.draws] else drawnP m f r k j
  | none => drawnP m f r k j
def nowF (m : Hs) (f : Fl) (r : Nat) (md : Nat -> Int) : Nat -> Int
 | 0 => (m.rooms.getD r rm0).stt
 | k + 1 => maxV 0 (w64 ((if runsB m f r k = true then w64 (nowF m f r md k + md k) else nowF m f r md k) - sumW (drawnP m f r k m.fans.length)))
def rowF (m : Hs) (f : Fl) (r : Nat) (md : Nat -> Int) : Nat -> List Int
 | 0 => []
 | k + 1 => rowF m f r md k ++ [nowF m f r md (k + 1)]
theorem drawn_len (m : Hs) (f : Fl) (r k : Nat) : ∀ j, (drawnP m f r k j).length <= j := by
 intro j
 induction j with
 | zero => exact Nat.le_refl _
 | succ j ih =>
  unfold drawnP
  split
  ·split
   ·rw [List.length_append, List.length_cons, List.length_nil]; omega
   ·omega
  ·omega
theorem row_len (m : Hs) (f : Fl) (r : Nat) (md : Nat -> Int) : ∀ k, (rowF m f r md k).length = k := by
 intro k
 induction k with
 | zero => rfl
 | succ k ih => unfold rowF; rw [List.length_append, ih]; rfl
theorem K171b {X : Ctx} (hX : X.intr 171 = some (flatFnD sp171)) {a : AV} {l : List Int} {h : Heap} (b : Blt h a 1 (intsE l)) (hl : l.length <= maxL) : Cl X 171 [a] h (.ret (.int .i64 (sumW l)) h none) := by
 obtain ⟨a', v1, s1⟩ := SeeV.blt (c := intC) b hl
 have e : viewD h a = some a' := by
  rcases b with ⟨rfl, _⟩ | ⟨id, rfl, _⟩
  ·exact v1
  ·exact v1
 exact Cl.intr hX (by simp only [flatFnD, viewDs, e, sp171, s1, Option.map_some])
def roomR (l : List Int) (h : Heap) (r : COut) : Prop := ∃ h', HExt h h' /\ r = .ret (slN (intsE l)) h' none
theorem roomR_fail {l : List Int} {h : Heap} : ¬ roomR l h .fail := by rintro ⟨_, _, e⟩; cases e
attribute [local irreducible] roomR drawnP nowF rowF runsB sumW
set_option maxHeartbeats 8000000 in
theorem C124 (c : Itr) (hc : c 124 = none) (hc0 : c 149 = none) (hc1 : c 102 = some (pureFn sp102)) (hc2 : c 89 = some (pureFn sp89)) (hc3 : c 238 = none) (hc4 : c 240 = none) (hc5 : c 242 = none) (hc6 : c 237 = none) (hc7 : c 239 = none) (hc8 : c 241 = none) (hc9 : c 171 = some (flatFnD sp171))
  (m : Hs) (f : Fl) (ra fa oa ha : AV) (hr : slV rmC ra = some m.rooms) (hf : slV faC fa = some m.fans) (ho : slV intC oa = some m.op) (oha : outV (some ha) = some ha) (n : Nat) (hn : m.hours = n) (hol : m.op.length = n) (hn4 : n <= 1000) (hfl : m.fans.length <= 1000) (r : Nat) (hrl : r < m.rooms.length)
  (g : FuncId) (first capt : List AV) (md : Nat -> Int) (h : Heap) (hmd : ∀ (k : Nat) (hh : Heap), k < n -> HExt h hh -> Cl (dX c) g ((first ++ [.int .i64 (k : Int)]) ++ capt) hh (.ret (.int .i64 (md k)) hh none)) :
  ClR (dX c) 124 [.agg [.int .i64 m.hours, ra, fa, oa, ha, f.enc], .int .i64 (r : Int), .func (.func g) first capt] h (roomR (rowF m f r md n) h) := by
 obtain ⟨p, hp⟩ := get_some hrl
 have hgp : nowF m f r md 0 = p.stt := by unfold nowF; simp [List.getD, hp]
 have hixr := fun H => rms_idx hr hp H
 have o1 := sl_out hr
 have o2 := sl_out hf
 have o3 := sl_out ho
 have lf := sl_len hf
 have k149 := fun k hk h => C149 c hc0 hc1 hc2 hc3 hc4 hc5 m f ra fa oa ha hr ho r k hrl (by rw [hol]; exact hk) ⟨o2, oha⟩ h
 have kdr : ∃ gD t u, f.enc = .iface t u /\ methodOf Tryz.prog t "nacre/shift.draws" = some gD /\ ∀ (i k : Nat) h, Cl (dX c) gD [u, .int .i64 (i : Int), .int .i64 (k : Int)] h (.ret (.bool (drawsB f i k)) h none) := by
  cases f with
  | no => exact ⟨237, 196, .agg [], rfl, by kernel_rfl, fun i k h => C237 c hc6 _ _ h⟩
  | fan x y => exact ⟨239, 198, _, rfl, by kernel_rfl, fun i k h => C239 c hc7 _ _ _ _ h⟩
  | mach x y => exact ⟨241, 199, _, rfl, by kernel_rfl, fun i k h => C241 c hc8 _ _ _ _ h⟩
 obtain ⟨gS, tS, uS, hfe, hme, kdr⟩ := kdr
 obtain ⟨fo, fcl, fit, _⟩ := fl_parts f
 rw [hfe] at fo fcl fit k149
 rw [hfe, hn]
 rw [hn] at k149
 simp only [AV.cells] at fcl
 simp only [isTuple] at fit
 have H2 := J1 hf
 have HGP := J1 hgp
 have HMD := J1 hmd
 have K149 := J1 k149
 have KDR := J1 kdr
 clear hr hf ho hp hgp hmd k149 kdr hfe hrl
 refine ClR.walk (c := _) hc Tryz.func124 rfl (by kernel_rfl) rfl roomR_fail ?_
 simp only [entryEnv, Nat.reduceAdd]
 repeat' (first | refine goS ?_ | (refine go2 ?_ ?_ <;> intro hh) | fail)
 refine W.loopV (n) [1, 2, 3, 22] [3] (fun k e lm hp => ∃ u, e.get 23 = some (.int .i64 ↑k) /\ e.get 8 = some (.int .i64 (nowF m f r md k)) /\ e.get 7 = some (u) /\ BltN h.next hp u 1 (intsE (rowF m f r md k)) /\ (h.next <= hp.next /\ ∀ id, id < h.next -> hp.get id = h.get id)) ?_ ?_
 ·skip
  refine ⟨.nilslice, ?_, ?_, ?_, ?_, ⟨Nat.le_refl _, fun _ _ => rfl⟩⟩
  ·simp [go_sem, *]
  ·rw [HGP.out]; simp only [go_sem, *, Nat.reduceLT, Int.reduceEq, Int.reduceBEq, Int.reduceLE, Int.reduceLT, Nat.reduceAdd, Nat.reduceBEq, Nat.reduceEqDiff, reduceIte, Nat.reduceLeDiff, Nat.reduceMul, Nat.reduceSub, reduceCtorEq]
  ·simp only [go_sem, *, Nat.reduceLT, Int.reduceEq, Int.reduceBEq, Int.reduceLE, Int.reduceLT, Nat.reduceAdd, Nat.reduceBEq, Nat.reduceEqDiff, reduceIte, Nat.reduceLeDiff, Nat.reduceMul, Nat.reduceSub, reduceCtorEq]
  ·unfold rowF; exact BltN.nil
 intro k e lm hp hk0 hce hcl hinv
 simp only [keepE, and_true] at hce
 obtain ⟨c1, c2, c3, c22⟩ := hce
 simp only [go_sem, *, Nat.reduceBEq, Nat.reduceEqDiff, reduceIte] at c1 c2 c3 c22
 simp only [keepL, and_true] at hcl
 have d3 := hcl
 clear hcl
 simp only [go_sem, *, Nat.reduceBEq, Nat.reduceEqDiff, reduceIte] at d3
 obtain ⟨u, h23, h8, h7, hB, hX⟩ := hinv
 by_cases hlt : k < n
 ·have hd0 : decide ((k : Int) < ((n : Nat) : Int)) = true := by first | (simpa using hlt; done) | (simp only [decide_eq_true_eq]; omega)
  have hv_0 := wrap_succ hlt (by unfold maxL; omega)
  have hbo := hB.blt.out
  have k149 := K149.out k hlt hp
  have hcb := HMD.out k hp hlt hX
  have hnx : nowF m f r md (k + 1) = maxV 0 (w64 ((if runsB m f r k = true then w64 (nowF m f r md k + md k) else nowF m f r md k) - sumW (drawnP m f r k m.fans.length))) := by rw [nowF]
  have hrx : rowF m f r md (k + 1) = rowF m f r md k ++ [nowF m f r md (k + 1)] := by rw [rowF]
  have hrl := row_len m f r md k
  generalize hq1 : nowF m f r md (k + 1) = n1 at *
  generalize hq2 : rowF m f r md (k + 1) = r1 at *
  generalize nowF m f r md k = n0 at *
  generalize rowF m f r md k = r0 at *
  generalize md k = mk at *
  have HNX := J1 hnx
  have HRX := J1 hrx
  have HQ1 := J1 hq1
  have HQ2 := J1 hq2
  have HLT0 := J1 hlt
  have HRL := J1 hrl
  clear hnx hrx hq1 hq2 hrl
  have HX0 := J1 hX
  obtain ⟨nb, hnb⟩ : ∃ nb, nb = (if runsB m f r k = true then w64 (n0 + mk) else n0) := ⟨_, rfl⟩
  have HNB := J1 hnb
  have hrun : (runsB m f r k = true /\ IntKind.i64.wrap (n0 + mk) = nb) \/ (runsB m f r k = false /\ nb = n0) := by
   cases q : runsB m f r k with
   | true => left; rw [hnb, q]; exact ⟨rfl, rfl⟩
   | false => right; rw [hnb, q]; exact ⟨rfl, rfl⟩
  clear hnb hlt
  generalize runsB m f r k = rb at *
  rcases hrun with ⟨rfl, hwb⟩ | ⟨rfl, rfl⟩
  all_goals
   repeat' (first | refine goS ?_ | (apply U6; exact Z1; exact Z1; (focus (first | exact k149 | exact hcb)); simp only [pM, pN, rR, rP]) | (refine go2 ?_ ?_ <;> intro hh) | fail)
   refine W.loopV (m.fans.length) [1, 2, 3, 7, 8, 9, 22, 23, 37, 38] [3] (fun j e1 lm1 hp1 => ∃ ud, e1.get 39 = some (.int .i64 ↑j) /\ e1.get 10 = some (ud) /\ BltN h.next hp1 ud 1 (intsE (drawnP m f r k j)) /\ BltN h.next hp1 u 1 (intsE r0) /\ SepV u ud /\ (h.next <= hp1.next /\ ∀ id, id < h.next -> hp1.get id = h.get id)) ?_ ?_
   ·skip
    refine ⟨.nilslice, ?_, ?_, ?_, hB, SepV.nil' _, HX0.out⟩
    ·simp [go_sem, *]
    ·simp only [go_sem, *, Nat.reduceLT, Int.reduceEq, Int.reduceBEq, Int.reduceLE, Int.reduceLT, Nat.reduceAdd, Nat.reduceBEq, Nat.reduceEqDiff, reduceIte, Nat.reduceLeDiff, Nat.reduceMul, Nat.reduceSub, reduceCtorEq]
    ·unfold drawnP; exact BltN.nil
   intro j e1 lm1 hp1 hk1 hce hcl hinv
   simp only [keepE, and_true] at hce
   obtain ⟨c1, c2, c3, c7, c8, c9, c22, c23, c37, c38⟩ := hce
   simp only [go_sem, *, Nat.reduceBEq, Nat.reduceEqDiff, reduceIte] at c1 c2 c3 c7 c8 c9 c22 c23 c37 c38
   simp only [keepL, and_true] at hcl
   have d3 := hcl
   clear hcl
   simp only [go_sem, *, Nat.reduceBEq, Nat.reduceEqDiff, reduceIte] at d3
   obtain ⟨ud, h39, h10, hD, hB1, hS, hX1⟩ := hinv
   by_cases hjt : j < m.fans.length
   ·have hd1 : decide ((j : Int) < ((m.fans.length : Nat) : Int)) = true := by first | (simpa using hjt; done) | (simp only [decide_eq_true_eq]; omega)
    have hv_1 := wrap_succ hjt (by unfold maxL; omega)
    have hX := hX1
    have hdo := hD.blt.out
    obtain ⟨x, hx⟩ := get_some hjt
    have hix := fun H => fas_idx H2.out hx H
    have kst := KDR.out j k hp1
    have hdl := drawn_len m f r k j
    have hdn : drawnP m f r k (j + 1) = if ((x.room == (r : Int)) && drawsB f j k) = true then drawnP m f r k j ++ [x.draws] else drawnP m f r k j := by rw [drawnP, hx]
    have hll : (intsE (drawnP m f r k j)).length + 1 <= most := by rw [intsE_len]; unfold most; omega
    generalize hq3 : drawnP m f r k (j + 1) = d1 at *
    generalize drawnP m f r k j = d0 at *
    generalize drawsB f j k = db at *
    have HQ3 := J1 hq3
    have HLT1 := J1 hjt
    have HB1 := J1 hB1
    have HS := J1 hS
    have HD := J1 hD
    have HX1 := J1 hX1
    clear hx hdl hq3 hjt hB1 hS hX1
    have hcase : ((x.room == (r : Int)) = false /\ d1 = d0) \/ ((x.room == (r : Int)) = true /\ db = false /\ d1 = d0) \/ ((x.room == (r : Int)) = true /\ db = true /\ d1 = d0 ++ [x.draws]) := by
     revert hdn
     cases (x.room == (r : Int)) <;> cases db <;> simp
    clear hdn
    rcases hcase with ⟨z1, e1⟩ | ⟨z1, rfl, e1⟩ | ⟨z1, rfl, e1⟩
    ·have E1 := J1 e1
     clear e1
     repeat' (first | refine goS ?_ | (refine go2 ?_ ?_ <;> intro hh) | fail)
     all_goals refine contV_mk (by first | assumption | exact HLT1.out) J7 J8 ?_
     all_goals refine ⟨ud, ?_, ?_, ?_, HB1.out, HS.out, HX1.out⟩
     all_goals first | exact Z2 | skip
     rw [HQ3.out, E1.out]; exact HD.out
    ·have E1 := J1 e1
     clear e1
     repeat' (first | (apply WO1.invoke (g := gS); exact Z1; exact Z1; (focus (exact hme)); (focus (exact kst)); simp only [pM, pN, rR, rP]) | refine go1 ?_ | (refine go2 ?_ ?_ <;> intro hh) | fail)
     all_goals refine contV_mk (by first | assumption | exact HLT1.out) J7 J8 ?_
     all_goals refine ⟨ud, ?_, ?_, ?_, HB1.out, HS.out, HX1.out⟩
     all_goals first | exact Z2 | skip
     rw [HQ3.out, E1.out]; exact HD.out
    ·have E1 := J1 e1
     clear e1
     repeat' (first | (apply WO1.invoke (g := gS); exact Z1; exact Z1; (focus (exact hme)); (focus (exact kst)); simp only [pM, pN, rR, rP]) | (apply WO1.appendX (t := 24) (u := 24) (e := 3) (e' := 3) (sz := 1) (tl := []) (b := h.next) (h0 := h) (hb := hD) (hx := hX); exact Z1; exact rfl; exact Z2; exact Z2; exact Z2; (focus (exact ty_row24)); exact Z1; (focus (intro v hv; simp at hv; subst hv; rfl)); (focus (simp only [List.length_map, List.length_cons, List.length_nil]; exact hll)); (focus (simp)); (intro v' h' hB' ho' hK' hE' hX'; simp only [pM, pN])) | refine go1 ?_ | (refine go2 ?_ ?_ <;> intro hh) | fail)
     all_goals refine contV_mk (by first | assumption | exact HLT1.out) J7 J8 ?_
     all_goals refine ⟨v', ?_, ?_, ?_, ?_, ?_, hX'⟩
     all_goals first | exact Z2 | skip
     ·rw [HQ3.out, E1.out, intsE_app]; exact hB'
     ·exact HB1.out.apart hK' HS.out
     ·rw [hE']; exact SepV.new HB1.out
   ·have hd1 : decide ((j : Int) < ((m.fans.length : Nat) : Int)) = false := by first | (simpa using hjt; done) | (simp only [decide_eq_false_iff_not]; omega)
    obtain rfl : j = m.fans.length := by omega
    clear hB hbo hX
    have hB := hB1
    have hX := hX1
    clear hB1 hX1
    have hbo := hB.blt.out
    have hdo := hD.blt.out
    have hdl := drawn_len m f r k m.fans.length
    have k171 := K171b (X := dX c) hc9 hD.blt (by unfold maxL; omega)
    have hnx := HNX.out
    rw [<- HNB.out] at hnx
    have hmx : foldV maxV .i64 0 [.int .i64 (w64 (nb - sumW (drawnP m f r k m.fans.length)))] = some (.int .i64 n1) := by rw [hnx]; rfl
    have hmx2 : IntKind.i64.wrap (nb - sumW (drawnP m f r k m.fans.length)) = w64 (nb - sumW (drawnP m f r k m.fans.length)) := rfl
    have hmx3 : maxV 0 (w64 (nb - sumW (drawnP m f r k m.fans.length))) = n1 := hnx.symm
    have hll : (intsE r0).length + 1 <= most := by rw [intsE_len]; have := HRL.out; unfold most; omega
    clear hnx hdl hD hS
    generalize w64 (nb - sumW (drawnP m f r k m.fans.length)) = y1 at *
    generalize sumW (drawnP m f r k m.fans.length) = y0 at *
    repeat' (first | (apply WO1.appendX (t := 24) (u := 24) (e := 3) (e' := 3) (sz := 1) (tl := []) (b := h.next) (h0 := h) (hb := hB) (hx := hX); exact Z1; exact rfl; exact Z2; exact Z2; exact Z2; (focus (exact ty_row24)); exact Z1; (focus (intro v hv; simp at hv; subst hv; rfl)); (focus (simp only [List.length_map, List.length_cons, List.length_nil]; exact hll)); (focus (simp)); (intro v' h' hB' ho' hK' hE' hX'; simp only [pM, pN])) | refine go1 ?_ | (apply U6; exact Z1; exact Z1; (exact k171); simp only [pM, pN, rR, rP]) | (refine go2 ?_ ?_ <;> intro hh) | fail)
    all_goals refine contV_mk HLT0.out J7 J8 ?_
    all_goals refine ⟨v', ?_, ?_, ?_, ?_, hX'⟩
    ·simp only [go_sem, *, Nat.reduceLT, Int.reduceEq, Int.reduceBEq, Int.reduceLE, Int.reduceLT, Nat.reduceAdd, Nat.reduceBEq, Nat.reduceEqDiff, reduceIte, Nat.reduceLeDiff, Nat.reduceMul, Nat.reduceSub, reduceCtorEq]
    ·rw [HQ1.out]; simp only [go_sem, *, Nat.reduceLT, Int.reduceEq, Int.reduceBEq, Int.reduceLE, Int.reduceLT, Nat.reduceAdd, Nat.reduceBEq, Nat.reduceEqDiff, reduceIte, Nat.reduceLeDiff, Nat.reduceMul, Nat.reduceSub, reduceCtorEq]
    ·simp only [go_sem, *, Nat.reduceLT, Int.reduceEq, Int.reduceBEq, Int.reduceLE, Int.reduceLT, Nat.reduceAdd, Nat.reduceBEq, Nat.reduceEqDiff, reduceIte, Nat.reduceLeDiff, Nat.reduceMul, Nat.reduceSub, reduceCtorEq]
    ·rw [HQ2.out, HRX.out, intsE_app]; exact hB'
 ·have hd0 : decide ((k : Int) < ((n : Nat) : Int)) = false := by first | (simpa using hlt; done) | (simp only [decide_eq_false_iff_not]; omega)
  obtain rfl : k = n := by omega
  obtain ⟨h', hz, hz2, hz1, g1, g2⟩ := hB.freeze
  have hx2 : HExt h h' := ⟨by rw [g1]; exact hX.1, fun id hid => (g2 id hid).trans (hX.2 id hid)⟩
  have HX2 := J1 hx2
  have hbo := hB.blt.out
  clear g1 g2 hx2 hX hB
  repeat' (first | refine goS ?_ | (refine go2 ?_ ?_ <;> intro hh) | fail)
  all_goals (simp only [resV_def (X := dX c) Tryz.func124, Tryz.results124]; first | exact J5 | refine J6 ?_)
  unfold roomR
  exact ⟨_, HX2.out, rfl⟩
end Go.AM
namespace Go.AM
open Go
variable [Keep]
section
variable {X : Ctx} {F : Fr} {Q : Out -> Prop} {g : Operand} {params : Array Tmp} {assign body : Code} {fid : FuncId} {first capt ps : List AV} {v : AV} {h : Heap} {up : Option (AV × Bool)} {f : FuncId} {e : Mp AV} {pl : List Tmp} {a b : Code} {st : LoopState}
theorem W.rangeNorm (hr : F.rnd = false) (hg : F.opv g = some (.func (.func fid) first capt))
  (hc : Cl X fid ((first ++ [.yield F.hp.next]) ++ capt) (F.hp.new (.loop F.f (F.e.map noBox) params.toList assign body .ready none)) (.ret v h up))
  (hb : h.get F.hp.next = some (.loop f e pl a b st none)) (hs : st ≠ .busy)
  (hq : Q (.norm { F with hp := h.put F.hp.next (.loop f e pl a b .exhausted none) })) : W X (.rangeFunc g params assign body) F Q := by
 obtain ⟨n, hn⟩ := hc
 refine ⟨_, Ev.step ⟨n, fun m hm => ?_⟩, hq⟩
 simp only [evStep, hr, Bool.false_eq_true, if_false, hg, hn m hm, hb, if_neg hs]
end
def roundQ (X : Ctx) (id : Nat) (R : COut -> Prop) : Out -> Prop := fun o => R (roundEnd X.P id o)
def RdR (X : Ctx) (id : Nat) (args : List AV) (h : Heap) (R : COut -> Prop) : Prop := ∃ r, (∃ n, ∀ m, n <= m -> roundV X (ev X m) id args h = r) /\ R r
theorem round_ok {X : Ctx} {id : Nat} {args : List AV} {h : Heap} {f : FuncId} {e e' : Mp AV} {ps : List Tmp} {a b : Code} {p : Option Code} {R : COut -> Prop}
  (h1 : h.get id = some (.loop f e ps a b .ready p)) (h2 : setParams ps args e = some e')
  (h3 : W X a (Fr.mk f true e' .nil h [] none) (thenQ (fun F1 => F1.hp = h /\ W X b { F1 with hp := h.put id (.loop f e ps a b .busy p) } (roundQ X id R)) (fun _ => False))) : RdR X id args h R := by
 obtain ⟨o, ⟨n, hn⟩, hq⟩ := h3
 cases o with
 | norm F1 =>
  obtain ⟨e1, o2, ⟨n2, hn2⟩, hq2⟩ := hq
  refine ⟨_, ⟨max n n2, fun m hm => ?_⟩, hq2⟩
  simp only [roundV, h1, h2, hn m (by omega), e1, hn2 m (by omega)]
 | exit i F' => exact hq.elim
 | ret F' => exact hq.elim
 | pan v F' => exact hq.elim
 | fail => exact hq.elim
theorem round_ok' {X : Ctx} {id : Nat} {args : List AV} {h : Heap} {f : FuncId} {e e' : Mp AV} {ps : List Tmp} {a b : Code} {p : Option Code} {R : COut -> Prop}
  (h1 : h.get id = some (.loop f e ps a b .ready p)) (h2 : setParams ps args e = some e')
  (h3 : W X a (Fr.mk f true e' .nil h [] none) (thenQ (fun F1 => F1.hp = h /\ ∀ hq : Heap, hq.next = h.next -> (∀ j, j ≠ id -> hq.get j = h.get j) -> hq.get id = some (.loop f e ps a b .busy p) -> W X b { F1 with hp := hq } (roundQ X id R)) (fun _ => False))) : RdR X id args h R := by
 refine round_ok h1 h2 (h3.mono fun o q => ?_)
 cases o with
 | norm F1 =>
  refine ⟨q.1, q.2 _ rfl (fun j hj => ?_) ?_⟩
  ·rw [Heap.get_put, if_neg (Ne.symm hj)]
  ·rw [Heap.get_put, if_pos rfl]
 | exit i F' => exact q
 | ret F' => exact q
 | pan v F' => exact q
 | fail => exact q
theorem roundQ_norm {X : Ctx} {id : Nat} {R : COut -> Prop} {F : Fr} : roundQ X id R (.norm F) ↔ R (endV id F .ready none true) := Iff.rfl
section
variable {X : Ctx} {f : FuncId} {ops : Array Oper} {ts : List (Nat × Trace)} {i k j : Nat} {r : List (Nat × Nat)} {x y o : Oper} {d : Option Tmp} {op : Op} {T : TypeId} {ps : String} {af : Array Edge} {want b : Bool} {s : Tmp}
  {f1 f2 : FuncId} {r1 r2 : Bool} {e1 e2 : Mp AV} {lm1 lm2 : Mp (Nat × List AV)} {hp1 hp2 : Heap} {df1 df2 : List (AV × List AV)} {up1 up2 : Option (AV × Bool)} {v1 v2 : AV} {a1 b2 : Fr}
theorem calmG (h1 : ops[i]? = some ⟨d, op, T, ps, af, some (j, want)⟩) (h2 : ops[k]? = some y) (h3 : traceOf ts i = some ⟨Fr.mk f1 r1 e1 lm1 hp1 df1 up1, v1, a1⟩) (h4 : traceOf ts k = some ⟨b2, v2, Fr.mk f2 r2 e2 lm2 hp2 df2 up2⟩)
  (h5 : isEffD X f ⟨d, op, T, ps, af, some (j, want)⟩ = false) (ho : ops[j]? = some o) (ht : o.dst = some s) (hb : e1.get s = some (.bool want)) (h7 : rdV X (Fr.mk f1 r1 e1 lm2 hp2 df1 up1) d op = some v1) (h8 : r.all (calmPair X f ops ts) = true) : ((i, k) :: r).all (calmPair X f ops ts) = true := by
 have hw : wantedA ops (Fr.mk f1 r1 e1 lm1 hp1 df1 up1) ⟨d, op, T, ps, af, some (j, want)⟩ = true := by simp [wantedA, yieldedA, ho, ht, hb]
 simp only [List.all_cons, h8, Bool.and_true, calmPair, h1, h2, h3, h4, h5, Bool.false_eq_true, if_false, rereads, hw, if_true, h7]
 exact AV.same_refl _
theorem calmGN (h1 : ops[i]? = some ⟨d, op, T, ps, af, some (j, want)⟩) (h2 : ops[k]? = some y) (h3 : traceOf ts i = some ⟨Fr.mk f1 r1 e1 lm1 hp1 df1 up1, v1, a1⟩) (h4 : traceOf ts k = some ⟨b2, v2, Fr.mk f2 r2 e2 lm2 hp2 df2 up2⟩)
  (h5 : isEffD X f ⟨d, op, T, ps, af, some (j, want)⟩ = false) (ho : ops[j]? = some o) (ht : o.dst = some s) (hb : e1.get s = some (.bool b)) (hne : (b == want) = false) (h8 : r.all (calmPair X f ops ts) = true) : ((i, k) :: r).all (calmPair X f ops ts) = true := by
 have hw : wantedA ops (Fr.mk f1 r1 e1 lm1 hp1 df1 up1) ⟨d, op, T, ps, af, some (j, want)⟩ = false := by simp [wantedA, yieldedA, ho, ht, hb]; cases b <;> cases want <;> simp_all
 simp only [List.all_cons, h8, Bool.and_true, calmPair, h1, h2, h3, h4, h5, Bool.false_eq_true, if_false, rereads, hw]
end
end Go.AM
namespace Go.AM
open Go
variable [Keep]
section
variable {X : Ctx} {ops : Array Oper} {K P : AV -> Fr -> Prop} {F : Fr} {d : Option Tmp} {T : TypeId} {p : String} {af : Array Edge}
end
section
variable {X : Ctx} {f : FuncId} {ops : Array Oper} {ts : List (Nat × Trace)} {i k j : Nat} {r : List (Nat × Nat)} {x y o : Oper} {d : Option Tmp} {op : Op} {T : TypeId} {ps : String} {af : Array Edge} {want b : Bool} {s : Tmp}
  {f1 f2 : FuncId} {r1 r2 : Bool} {e1 e2 : Mp AV} {lm1 lm2 : Mp (Nat × List AV)} {hp1 hp2 : Heap} {df1 df2 : List (AV × List AV)} {up1 up2 : Option (AV × Bool)} {v1 v2 : AV} {a1 a2 b2 : Fr}
theorem calmR (h1 : ops[i]? = some ⟨d, op, T, ps, af, none⟩) (h2 : ops[k]? = some y) (h3 : traceOf ts i = some ⟨Fr.mk f1 r1 e1 lm1 hp1 df1 up1, v1, a1⟩) (h4 : traceOf ts k = some ⟨b2, v2, Fr.mk f2 r2 e2 lm2 hp2 df2 up2⟩)
  (h5 : isEffD X f ⟨d, op, T, ps, af, none⟩ = false) (h7 : rdV X (Fr.mk f1 r1 e1 lm2 hp2 df1 up1) d op = some v1) (h8 : r.all (calmPair X f ops ts) = true) : ((i, k) :: r).all (calmPair X f ops ts) = true := by
 simp only [List.all_cons, h8, Bool.and_true, calmPair, h1, h2, h3, h4, h5, Bool.false_eq_true, if_false, rereads, wantedA, if_true, h7]
 exact AV.same_refl _
theorem calmE (h1 : ops[i]? = some x) (h2 : ops[k]? = some ⟨d, op, T, ps, af, none⟩) (h3 : traceOf ts i = some ⟨Fr.mk f1 r1 e1 lm1 hp1 df1 up1, v1, a1⟩) (h4 : traceOf ts k = some ⟨Fr.mk f2 r2 e2 lm2 hp2 df2 up2, v2, a2⟩)
  (h5 : isEffD X f x = true) (h7 : rdV X (Fr.mk f2 r2 e2 lm1 hp1 df2 up2) d op = some v2) (h8 : r.all (calmPair X f ops ts) = true) : ((i, k) :: r).all (calmPair X f ops ts) = true := by
 simp only [List.all_cons, h8, Bool.and_true, calmPair, h1, h2, h3, h4, h5, if_true, rereads, wantedA, h7]
 exact AV.same_refl _
theorem calmEnd : ([] : List (Nat × Nat)).all (calmPair X f ops ts) = true := rfl
end
end Go.AM
namespace Go.AM
open Go Go.Proofs
variable [Keep]
attribute [local irreducible] W WO WO1 WD WQ WT thenQ blockQ endR isRet retK Cl ClR
open Go.TX (Rm Fa Ha Hs)
section
variable (c : Itr)
theorem C180 (hc : c 180 = none) (a : Int) (id : Nat) (p : Rm) (h : Heap) (hg : h.get id = some (.var [.int .i64 p.lo, .int .i64 p.hi, .int .i64 p.mke, .int .i64 p.wt, .int .i64 p.stt])) : Cl (dX c) 180 (([] ++ [.int .i64 a]) ++ [.ptr id 0]) h (.ret (.int .i64 p.lo) h none) := by
 refine ClR.cl ?_
 refine ClR.walk (c := _) hc Tryz.func180 rfl (by kernel_rfl) rfl (fun e => by cases e) ?_
 simp only [entryEnv, Nat.reduceAdd, List.nil_append, List.cons_append]
 repeat' (first | refine goS ?_ | (refine go2 ?_ ?_ <;> intro hh) | fail)
 all_goals (simp only [resV_def (X := dX c) Tryz.func180, Tryz.results180]; first | exact J5 | refine J6 ?_)
 all_goals rfl
theorem C181 (hc : c 181 = none) (a : Int) (id : Nat) (p : Rm) (h : Heap) (hg : h.get id = some (.var [.int .i64 p.lo, .int .i64 p.hi, .int .i64 p.mke, .int .i64 p.wt, .int .i64 p.stt])) : Cl (dX c) 181 (([] ++ [.int .i64 a]) ++ [.ptr id 0]) h (.ret (.int .i64 p.hi) h none) := by
 refine ClR.cl ?_
 refine ClR.walk (c := _) hc Tryz.func181 rfl (by kernel_rfl) rfl (fun e => by cases e) ?_
 simp only [entryEnv, Nat.reduceAdd, List.nil_append, List.cons_append]
 repeat' (first | refine goS ?_ | (refine go2 ?_ ?_ <;> intro hh) | fail)
 all_goals (simp only [resV_def (X := dX c) Tryz.func181, Tryz.results181]; first | exact J5 | refine J6 ?_)
 all_goals rfl
end
def lowsP (m : Hs) (f : Fl) : Nat -> List (List Int)
 | 0 => []
 | r + 1 => lowsP m f r ++ [rowF m f r (fun _ => (m.rooms.getD r rm0).lo) m.hours.toNat]
def highsP (m : Hs) (f : Fl) : Nat -> List (List Int)
 | 0 => []
 | r + 1 => highsP m f r ++ [rowF m f r (fun _ => (m.rooms.getD r rm0).hi) m.hours.toNat]
def rowsE (g : List (List Int)) : List AV := g.map fun l => slN (intsE l)
theorem lows_len (m : Hs) (f : Fl) : ∀ r, (lowsP m f r).length = r /\ (highsP m f r).length = r := by
 intro r
 induction r with
 | zero => exact ⟨rfl, rfl⟩
 | succ r ih => simp [lowsP, highsP, ih.1, ih.2]
theorem lows_succ (m : Hs) (f : Fl) (r : Nat) : lowsP m f (r + 1) = lowsP m f r ++ [rowF m f r (fun _ => (m.rooms.getD r rm0).lo) m.hours.toNat] /\ highsP m f (r + 1) = highsP m f r ++ [rowF m f r (fun _ => (m.rooms.getD r rm0).hi) m.hours.toNat] := ⟨rfl, rfl⟩
theorem rowsE_len (g : List (List Int)) : (rowsE g).length = g.length := by unfold rowsE; rw [List.length_map]
theorem rowsE_app (g : List (List Int)) (l : List Int) : rowsE (g ++ [l]) = rowsE g ++ [slN (intsE l)] := by simp [rowsE]
def boundsE (m : Hs) (f : Fl) : AV := .agg [slN (rowsE (lowsP m f m.rooms.length)), slN (rowsE (highsP m f m.rooms.length))]
def walkB (m : Hs) : Bool := decide (0 <= m.hours) && decide (m.hours <= 1000) && decide (m.op.length = m.hours.toNat) && decide (m.fans.length <= 1000) && decide (m.rooms.length <= 1000)
def sp137 : List AV -> Option AV
 | [.agg [.int .i64 n, ra, fa, oa, ha, fv]] => match hsV (.agg [.int .i64 n, ra, fa, oa, ha]), flV fv with
  | some m, some f => if walkB m = true then some (boundsE m f) else none
  | _, _ => none
 | _ => none
theorem rowsE_pur (g : List (List Int)) : (slN (rowsE g)).pur = true := by
 refine (slN_is _).pur fun x hx => ?_
 unfold rowsE at hx
 obtain ⟨l, _, rfl⟩ := List.mem_map.1 hx
 exact (slN_is _).pur (enc_pur intC l)
theorem p137 : ∀ args v, sp137 args = some v -> v.pur = true := by
 intro args v h
 unfold sp137 at h
 split at h
 ·split at h
  ·split at h
   ·cases h
    simp only [boundsE, AV.pur, AV.purL, rowsE_pur, Bool.and_self]
   ·cases h
  ·cases h
 ·cases h
noncomputable def cYH : Itr
 | 102 => some (pureFn sp102)
 | 89 => some (pureFn sp89)
 | 171 => some (flatFnD sp171)
 | _ => none
theorem cYH_sound : Sound (dX cYH) := dX_sound (fun f g h => by
 unfold cYH at h
 split at h
 ·cases h; exact F102
 ·cases h; exact F89
 ·cases h; exact F171D
 ·cases h)
attribute [local irreducible] rowF lowsP highsP roomR rowsE
set_option maxHeartbeats 8000000 in
theorem F137 : IntrFn Tryz.prog 137 (pureFn sp137) := by
 refine pure_fn (X := dX cYH) cYH_sound p137 ?_
 intro args v h
 unfold sp137 at h
 split at h
 ·rename_i n ra fa oa ha fv
  split at h
  ·rename_i m f hm hfv
   split at h
   ·rename_i hw
    have h := Option.some.inj h
    subst h
    obtain rfl := flV_is hfv
    obtain ⟨ra', fa', oa', ha', heq, v1, v2, v3, v4⟩ := hsV_is hm
    cases heq
    unfold walkB at hw
    simp only [Bool.and_eq_true, decide_eq_true_eq] at hw
    obtain ⟨⟨⟨⟨w1, w2⟩, w3⟩, w4⟩, w5⟩ := hw
    obtain ⟨nn, hnn⟩ : ∃ nn : Nat, m.hours = nn := ⟨m.hours.toNat, by omega⟩
    have hnt : m.hours.toNat = nn := by omega
    have l1 := sl_len v1
    have o1 := sl_out v1
    have o2 := sl_out v2
    have o3 := sl_out v3
    have o4 := sl_out v4
    have hroom := fun (r : Nat) (hrl : r < m.rooms.length) (g : FuncId) (first capt : List AV) (md : Nat -> Int) (h : Heap) hmd => C124 cYH rfl rfl rfl rfl rfl rfl rfl rfl rfl rfl rfl m f ra fa oa ha v1 v2 v3 o4 nn hnn (by omega) (by omega) w4 r hrl g first capt md h hmd
    obtain ⟨fo, fcl, fit, _⟩ := fl_parts f
    simp only [AV.cells] at fcl
    simp only [isTuple] at fit
    unfold boundsE
    rw [hnn] at hroom ⊢
    have H1 := J1 v1
    have HROOM := J1 hroom
    have HNT := J1 hnt
    clear v1 v2 v3 v4 hroom hm hfv hnt w1 w2 w3 hnn
    generalize f.enc = fv at *
    refine ClR.walk (c := _) rfl Tryz.func137 rfl (by kernel_rfl) rfl isRet_fail ?_
    simp only [entryEnv, Nat.reduceAdd, emptyHp]
    repeat' (first | refine goS ?_ | (refine go2 ?_ ?_ <;> intro hh) | fail)
    refine W.loopV (m.rooms.length) [1, 2, 3, 8, 9] [1, 2] (fun k e lm hp => ∃ u1 u2, e.get 10 = some (.int .i64 ↑k) /\ lm.get 3 = some (0, [u1, u2]) /\ BltN 0 hp u1 1 (rowsE (lowsP m f k)) /\ BltN 0 hp u2 1 (rowsE (highsP m f k)) /\ SepV u1 u2) ?_ ?_
    ·skip
     refine ⟨.nilslice, .nilslice, ?_, ?_, ?_, ?_, SepV.nil _⟩
     ·simp [go_sem, *]
     ·simp only [go_sem, *, Nat.reduceLT, Int.reduceEq, Int.reduceBEq, Int.reduceLE, Int.reduceLT, Nat.reduceAdd, Nat.reduceBEq, Nat.reduceEqDiff, reduceIte, Nat.reduceLeDiff, Nat.reduceMul, Nat.reduceSub, reduceCtorEq]
     ·unfold lowsP rowsE; exact BltN.nil
     ·unfold highsP rowsE; exact BltN.nil
    intro k e lm hp hk0 hce hcl hinv
    simp only [keepE, and_true] at hce
    obtain ⟨c1, c2, c3, c8, c9⟩ := hce
    simp only [go_sem, *, Nat.reduceBEq, Nat.reduceEqDiff, reduceIte] at c1 c2 c3 c8 c9
    simp only [keepL, and_true] at hcl
    obtain ⟨d1, d2⟩ := hcl
    simp only [go_sem, *, Nat.reduceBEq, Nat.reduceEqDiff, reduceIte] at d1 d2
    obtain ⟨u1, u2, h10, g3, hA1, hA2, hS⟩ := hinv
    by_cases hlt : k < m.rooms.length
    ·have hd0 : decide ((k : Int) < ((m.rooms.length : Nat) : Int)) = true := by first | (simpa using hlt; done) | (simp only [decide_eq_true_eq]; omega)
     have hv_0 := wrap_succ hlt (by unfold maxL; omega)
     obtain ⟨hpn, hpm⟩ := hp
     obtain ⟨p, hp'⟩ := get_some hlt
     have hix := fun H => rms_idx H1.out hp' H
     have hgp : m.rooms.getD k rm0 = p := by simp [List.getD, hp']
     obtain ⟨q1, q2, q3⟩ := hA1.parts
     obtain ⟨q4, q5, q6⟩ := hA2.parts
     simp only [AV.cells] at q2 q5
     simp only [isTuple] at q3 q6
     obtain ⟨s1, s2⟩ := lows_succ m f k
     rw [hgp, HNT.out] at s1 s2
     have hr1 := fun H hmd => HROOM.out k hlt 180 [] [.ptr hpn 0] (fun _ => p.lo) H hmd
     have hr2 := fun H hmd => HROOM.out k hlt 181 [] [.ptr hpn 0] (fun _ => p.hi) H hmd
     generalize rowF m f k (fun _ => p.lo) nn = w1 at *
     generalize rowF m f k (fun _ => p.hi) nn = w2 at *
     have hk1 : (rowsE (lowsP m f k)).length + 1 <= most := by rw [rowsE_len, (lows_len m f k).1]; unfold most; omega
     have hk2 : (rowsE (highsP m f k)).length + 1 <= most := by rw [rowsE_len, (lows_len m f k).2]; unfold most; omega
     have HK1 := J1 hk1
     have HK2 := J1 hk2
     have HR1 := J1 hr1
     have HR2 := J1 hr2
     have HS1 := J1 s1
     have HS2 := J1 s2
     have HA1 := J1 hA1
     have HA2 := J1 hA2
     have HS := J1 hS
     have HLT0 := J1 hlt
     clear hA1 hA2 hS hp' hlt s1 s2 hr1 hr2 hgp hk1 hk2
     repeat' (first | refine goS ?_ | (refine go2 ?_ ?_ <;> intro hh) | fail)
     generalize hz1 : Heap.mk (hpn + 1) ((hpm.set hpn (Blk.var [AV.int IntKind.i64 0, AV.int IntKind.i64 0, AV.int IntKind.i64 0, AV.int IntKind.i64 0, AV.int IntKind.i64 0])).set hpn (Blk.var [AV.int IntKind.i64 p.lo, AV.int IntKind.i64 p.hi, AV.int IntKind.i64 p.mke, AV.int IntKind.i64 p.wt, AV.int IntKind.i64 p.stt])) = z1
     have hg1 : z1.get hpn = some (.var [.int .i64 p.lo, .int .i64 p.hi, .int .i64 p.mke, .int .i64 p.wt, .int .i64 p.stt]) := by
      rw [<- hz1]; simp only [Heap.get, Mp.get_set, if_true]
     have hx1 : HExt ⟨hpn, hpm⟩ z1 := by
      rw [<- hz1]
      refine ⟨Nat.le_succ _, fun id hid => ?_⟩
      have hid' : id < hpn := hid
      have : ¬ hpn = id := by omega
      simp only [Heap.get, Mp.get_set, if_neg this]
     have hn1 : z1.next = hpn + 1 := by rw [<- hz1]
     clear hz1
     have hr1 := HR1.out z1 (fun a H ha hx => C180 cYH rfl _ hpn p H ((hx.2 hpn (by rw [hn1]; exact Nat.lt_succ_self _)).trans hg1))
     unfold ClR roomR at hr1
     obtain ⟨_, hcl1, z2, hx2, rfl⟩ := hr1
     have hA := (HA1.out.keep hx1).keep hx2
     have hx12 := hx1.trans hx2
     have HX12 := J1 hx12
     have hg2 := (hx2.2 hpn (by rw [hn1]; exact Nat.lt_succ_self _)).trans hg1
     have hn2 : hpn < z2.next := Nat.lt_of_lt_of_le (by rw [hn1]; exact Nat.lt_succ_self _) hx2.1
     have hu1 : ∀ off n, u1 ≠ .row hpn off n := by
      intro off n e
      rcases HA1.out with ⟨e2, _⟩ | ⟨i, e2, _, _, h4, _⟩
      ·rw [e2] at e; cases e
      ·rw [e2] at e
       cases e
       exact Nat.lt_irrefl _ h4
     have hll := HK1.out
     have hi1 := (slN_is (intsE w1))
     have hsc : (slN (intsE w1)).cells.length = 1 := by rw [hi1.cells]; rfl
     have hw1 := hi1.out
     have hw2 := hi1.cells
     have hw3 := hi1.tup
     have HU1 := J1 hu1
     have HG2 := J1 hg2
     have HN2 := J1 hn2
     clear hg1 hx1 hn1 hx2 hx12 hu1 hg2 hi1 hn2
     generalize hsl : slN (intsE w1) = y1 at *
     have HSL := J1 hsl
     clear hsl
     simp only [AV.cells] at hw2
     simp only [isTuple] at hw3
     repeat' (first | (apply W.draw (id := 5) (lc := [0, 1, 2, 3, 4, 5, 6, 7, 8, 9]) (hot := [(1, 5)]); kernel_rfl; kernel_rfl; kernel_rfl; exact Z4) | (apply WD.cons (o := ⟨some 23, _, _, _, _, none⟩); exact rfl; exact rfl) | (apply WD.cons (o := ⟨none, .store 36 (.tmp 23) (.tmp 22), _, _, _, none⟩); exact rfl; exact rfl) | (refine WD.cons rfl rfl ?_) | (refine WD.nil ⟨?_, ?_⟩; rotate_left; simp only [tN, bN, eN, true_and]) | (refine calmR rfl rfl rfl rfl rfl ?_ ?_; (focus (first | exact Z2 | exact Z1))) | (refine calmE rfl rfl rfl rfl rfl ?_ ?_; (focus (first | exact Z2 | exact Z1))) | (with_reducible refine calmEnd) | (apply WO1.appendX (t := 36) (u := 36) (e := 24) (e' := 24) (sz := 1) (tl := []) (b := 0) (h0 := ⟨0, .nil⟩) (hb := hA) (hx := ⟨Nat.zero_le _, fun id h => absurd h (Nat.not_lt_zero id)⟩); exact Z1; exact rfl; exact Z2; exact Z2; exact Z2; (focus (exact ty_row36)); exact Z1; (focus (intro v hv; simp at hv; subst hv; exact hsc)); (focus (simp only [List.length_map, List.length_cons, List.length_nil]; exact hll)); (focus (simp)); (intro v' h' hB' ho' hK' hE' hX'; have hcc' := hB'.blt.cells; have htt' := hB'.blt.tup; simp only [AV.cells] at hcc'; simp only [isTuple] at htt'; simp only [pM, pN])) | refine go1 ?_ | (apply U6; exact Z1; exact Z1; (exact hcl1); simp only [pM, pN, rR, rP]) | (refine go2 ?_ ?_ <;> intro hh) | fail)
     have hA0 := HA2.out.keep HX12.out
     have hsv : SepV u2 v' := by rw [hE']; exact SepV.new hA0
     have hA := hA0.apart hK' HS.out.symm
     have hg3 := (hK'.2 hpn HN2.out HU1.out).trans HG2.out
     have hn3 : hpn < h'.next := Nat.lt_of_lt_of_le HN2.out hK'.1
     have HV := J1 hB'
     have HSV := J1 hsv
     generalize h' = z3 at *
     generalize v' = v3 at *
     have hcl3 := hcc'
     have htu3 := htt'
     have hou3 := ho'
     have HE3 := J1 hE'
     clear hA0 hsv hB' hK' hE' hX' ho' hcl1 hll hcc' htt'
     have hr2 := HR2.out z3 (fun a H ha hx => C181 cYH rfl _ hpn p H ((hx.2 hpn hn3).trans hg3))
     unfold ClR roomR at hr2
     obtain ⟨_, hcl2, z4, hx4, rfl⟩ := hr2
     have HV4 := J1 (HV.out.keep hx4)
     replace hA := hA.keep hx4
     have hll := HK2.out
     have hi1 := (slN_is (intsE w2))
     have hsc : (slN (intsE w2)).cells.length = 1 := by rw [hi1.cells]; rfl
     have hy1 := hi1.out
     have hy2 := hi1.cells
     have hy3 := hi1.tup
     clear hg3 hn3 hx4 hi1
     generalize hsl : slN (intsE w2) = y2 at *
     have HSL2 := J1 hsl
     clear hsl
     simp only [AV.cells] at hy2
     simp only [isTuple] at hy3
     repeat' (first | (apply W.draw (id := 6) (lc := [0, 1, 2, 3, 4, 5, 6, 7, 8, 9]) (hot := [(1, 5)]); kernel_rfl; kernel_rfl; kernel_rfl; exact Z4) | (apply WD.cons (o := ⟨some 32, _, _, _, _, none⟩); exact rfl; exact rfl) | (apply WD.cons (o := ⟨none, .store 36 (.tmp 32) (.tmp 31), _, _, _, none⟩); exact rfl; exact rfl) | (refine WD.cons rfl rfl ?_) | (refine WD.nil ⟨?_, ?_⟩; rotate_left; simp only [tN, bN, eN, true_and]) | (refine calmR rfl rfl rfl rfl rfl ?_ ?_; (focus (first | exact Z2 | exact Z1))) | (refine calmE rfl rfl rfl rfl rfl ?_ ?_; (focus (first | exact Z2 | exact Z1))) | (with_reducible refine calmEnd) | (apply WO1.appendX (t := 36) (u := 36) (e := 24) (e' := 24) (sz := 1) (tl := []) (b := 0) (h0 := ⟨0, .nil⟩) (hb := hA) (hx := ⟨Nat.zero_le _, fun id h => absurd h (Nat.not_lt_zero id)⟩); exact Z1; exact rfl; exact Z2; exact Z2; exact Z2; (focus (exact ty_row36)); exact Z1; (focus (intro v hv; simp at hv; subst hv; exact hsc)); (focus (simp only [List.length_map, List.length_cons, List.length_nil]; exact hll)); (focus (simp)); (intro v' h' hB' ho' hK' hE' hX'; have hcc' := hB'.blt.cells; have htt' := hB'.blt.tup; simp only [AV.cells] at hcc'; simp only [isTuple] at htt'; simp only [pM, pN])) | refine go1 ?_ | (apply U6; exact Z1; exact Z1; (exact hcl2); simp only [pM, pN, rR, rP]) | (refine go2 ?_ ?_ <;> intro hh) | fail)
     all_goals refine contV_mk J9 J7 J8 ?_
     all_goals refine ⟨v3, v', ?_, ?_, ?_, ?_, ?_⟩
     all_goals first | exact Z2 | skip
     ·simp [HE3.out, hE']
     ·rw [HS1.out, rowsE_app, HSL.out]
      exact HV4.out.apart hK' HSV.out.symm
     ·rw [HS2.out, rowsE_app, HSL2.out]
      exact hB'
     ·rw [hE']
      exact SepV.new HV4.out
    ·have hd0 : decide ((k : Int) < ((m.rooms.length : Nat) : Int)) = false := by first | (simpa using hlt; done) | (simp only [decide_eq_false_iff_not]; omega)
     obtain rfl : k = m.rooms.length := by omega
     clear HROOM
     obtain ⟨q1, q2, q3⟩ := hA1.parts
     obtain ⟨q4, q5, q6⟩ := hA2.parts
     simp only [AV.cells] at q2 q5
     simp only [isTuple] at q3 q6
     obtain ⟨z1, y1, y2, y3, e1, p1⟩ := hA1.freeze
     have hA2' := hA2.afterFrz y3 e1 p1 hS.symm
     obtain ⟨z2, y4, y5, y6, e2, p2⟩ := hA2'.freeze
     clear hA1 hA2 hA2' p1 p2 hS e1 e2
     repeat' (first | refine goS ?_ | (refine go2 ?_ ?_ <;> intro hh) | fail)
     all_goals (simp only [resV_def (X := dX cYH) Tryz.func137, Tryz.results137]; first | exact J5 | refine J6 ?_)
   ·cases h
  ·cases h
 ·cases h
end Go.AM
