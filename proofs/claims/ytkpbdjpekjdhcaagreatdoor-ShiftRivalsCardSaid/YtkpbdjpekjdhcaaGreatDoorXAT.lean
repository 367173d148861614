/-
  A part of the proof: contracts of functions.
-/
import Derived.Test.YtkpbdjpekjdhcaaGreatDoorXAS
import Derived.Test.YtkpbdjpekjdhcaaGreatDoorXAR
set_option linter.unusedSectionVars false
set_option linter.unusedVariables false
set_option linter.unusedSimpArgs false
set_option maxRecDepth 100000
namespace Go.AM
open Go Go.Proofs
variable [Keep]
attribute [local irreducible] W WO WO1 WD WQ WT thenQ blockQ endR isRet retK Cl ClR
open Go.TX (Rm Fa Ha Hs)
attribute [local irreducible] failP fanP machP hourP madeF
def fksE (l : List Fl) : List AV := l.map fun f => fkC.enc f.tell
theorem fksE_app (l : List Fl) (f : Fl) : fksE (l ++ [f]) = fksE l ++ [fkC.enc f.tell] := by simp [fksE]
theorem fksE_len (l : List Fl) : (fksE l).length = l.length := by simp [fksE]
theorem hourP_len (p : List Fl) (mk : Int -> Fl) (j : Nat) : (hourP p mk j).length = p.length + j := by
 induction j with
 | zero => unfold hourP; rfl
 | succ j ih => unfold hourP; rw [List.length_append, ih]; rfl
theorem fanP_len (n k : Nat) : (fanP n k).length = 1 + k * n := by
 induction k with
 | zero => unfold fanP; simp
 | succ k ih => unfold fanP; rw [hourP_len, ih, Nat.succ_mul]; omega
theorem machP_len (n : Nat) (p : List Fl) (k : Nat) : (machP n p k).length = p.length + k * n := by
 induction k with
 | zero => unfold machP; simp
 | succ k ih => unfold machP; rw [hourP_len, ih, Nat.succ_mul]; omega
theorem fail_len (n a b : Nat) : (failP n a b).length = 1 + a * n + b * n := by unfold failP; rw [machP_len, fanP_len]
theorem fail_29 {n a b : Nat} (hn : n <= 4) (ha : a <= 4) (hb : b <= 3) : (failP n a b).length <= 29 := by
 have h1 : a * n <= 4 * 4 := Nat.mul_le_mul ha hn
 have h2 : b * n <= 3 * 4 := Nat.mul_le_mul hb hn
 rw [fail_len]; omega
def failsH (m : Hs) : List Fl := failP m.hours.toNat m.fans.length m.rooms.length
theorem fails_29 {m : Hs} (ho : HOk m) : (failsH m).length <= 29 := by
 obtain ⟨nn, h1, h2, h3, h4, h5⟩ := ho_parts ho
 have h6 := ho.rooms
 have h7 := ho.fans
 exact fail_29 (by omega) (by omega) (by omega)
theorem fails_1 (m : Hs) : 1 <= (failsH m).length := by unfold failsH; rw [fail_len]; omega
theorem fks_sl (l : List Fl) (h : l.length <= maxL) : slV fkC (slN (fksE l)) = some (l.map Fl.tell) := by
 have : fksE l = (l.map Fl.tell).map fkC.enc := by simp [fksE]
 rw [this]
 exact slV_slN (by simpa using h)
def mmA : Int × Int -> List Int -> Int × Int
 | s, [] => s
 | s, n :: r => mmA (minV s.1 n, maxV s.2 n) r
attribute [local irreducible] mmA
section
variable {c : Itr}
end
end Go.AM
namespace Go.AM
open Go Go.Proofs
variable [Keep]
attribute [local irreducible] W WO WO1 WD WQ WT thenQ blockQ endR isRet retK Cl ClR
open Go.TX (Rm Fa Ha Hs)
attribute [local irreducible] roundQ RdR failP madeF houseB
theorem K82p {X : Ctx} (hX : X.intr 82 = some (flatFnD sp82)) {ra fa oa ha : AV} {m : Hs} (hm : HsA m ra fa oa ha) (h : Heap) :
  Cl X 82 [.agg [.int .i64 m.hours, ra, fa, oa, ha]] h (.ret (.bool (houseB m)) h none) := K82 hX (SeeV.of hm.r h) (SeeV.of hm.f h) (SeeV.of hm.o h) (SeeV.of hm.h h)
theorem round_go {σ : Type} {I D : σ -> Heap -> Prop} {X : Ctx} {id : Nat} {F : Fr} {x : σ × Bool} {s' : σ} {f : FuncId} {e : Mp AV} {ps : List Tmp} {a b : Code} {st : LoopState} {p : Option Code} (hL : F.hp.get id = some (.loop f e ps a b st p)) (e1 : x = (s', true))
  (hI : I s' (F.hp.put id (.loop f e ps a b .ready none))) : roundQ X id (stI I D .bool x) (.norm F) := by
 rw [roundQ_norm]
 simp only [endV, hL]
 exact stI_go (v := .bool) e1 hI
end Go.AM
namespace Go.AM
open Go Go.Proofs
variable [Keep]
attribute [local irreducible] W WO WO1 WD WQ WT thenQ blockQ endR isRet retK Cl ClR
open Go.TX (Rm Fa Ha Hs)
theorem hourP_mem_iff {p : List Fl} {mk : Int -> Fl} {f : Fl} : ∀ {j : Nat}, f ∈ hourP p mk j ↔ f ∈ p \/ ∃ i : Nat, i < j /\ f = mk i := by
 intro j
 induction j with
 | zero => unfold hourP; simp
 | succ j ih =>
  unfold hourP
  rw [List.mem_append, ih, List.mem_singleton]
  constructor
  ·rintro ((h | ⟨i, hi, rfl⟩) | rfl)
   ·exact .inl h
   ·exact .inr ⟨i, by omega, rfl⟩
   ·exact .inr ⟨j, by omega, rfl⟩
  ·rintro (h | ⟨i, hi, rfl⟩)
   ·exact .inl (.inl h)
   ·by_cases e : i = j
    ·subst e; exact .inr rfl
    ·exact .inl (.inr ⟨i, by omega, rfl⟩)
theorem fanP_mem_iff {n : Nat} {f : Fl} : ∀ {a : Nat}, f ∈ fanP n a ↔ f = .no \/ ∃ k i : Nat, k < a /\ i < n /\ f = .fan k i := by
 intro a
 induction a with
 | zero => unfold fanP; simp
 | succ a ih =>
  unfold fanP
  rw [hourP_mem_iff, ih]
  constructor
  ·rintro ((h | ⟨k, i, hk, hi, rfl⟩) | ⟨i, hi, rfl⟩)
   ·exact .inl h
   ·exact .inr ⟨k, i, by omega, hi, rfl⟩
   ·exact .inr ⟨a, i, by omega, hi, rfl⟩
  ·rintro (h | ⟨k, i, hk, hi, rfl⟩)
   ·exact .inl (.inl h)
   ·by_cases e : k = a
    ·subst e; exact .inr ⟨i, hi, rfl⟩
    ·exact .inl (.inr ⟨k, i, by omega, hi, rfl⟩)
theorem machP_mem_iff {n : Nat} {p : List Fl} {f : Fl} : ∀ {b : Nat}, f ∈ machP n p b ↔ f ∈ p \/ ∃ k i : Nat, k < b /\ i < n /\ f = .mach k i := by
 intro a
 induction a with
 | zero => unfold machP; simp
 | succ a ih =>
  unfold machP
  rw [hourP_mem_iff, ih]
  constructor
  ·rintro ((h | ⟨k, i, hk, hi, rfl⟩) | ⟨i, hi, rfl⟩)
   ·exact .inl h
   ·exact .inr ⟨k, i, by omega, hi, rfl⟩
   ·exact .inr ⟨a, i, by omega, hi, rfl⟩
  ·rintro (h | ⟨k, i, hk, hi, rfl⟩)
   ·exact .inl (.inl h)
   ·by_cases e : k = a
    ·subst e; exact .inr ⟨i, hi, rfl⟩
    ·exact .inl (.inr ⟨k, i, by omega, hi, rfl⟩)
theorem fkEq_iff {a b : Fk} : fkEq a b = true ↔ a = b := by
 obtain ⟨a1, a2, a3⟩ := a
 obtain ⟨b1, b2, b3⟩ := b
 simp [fkEq, and_assoc]
theorem inB_iff {x lo hi : Int} : inB x lo hi = true ↔ lo <= x /\ x <= hi := by
 unfold inB
 simp only [Bool.and_eq_true, decide_eq_true_eq, ge_iff_le]
theorem fails_cons (m : Hs) : ∃ l, failsH m = .no :: l := by
 obtain ⟨r, hr⟩ := fail_no (n := m.hours.toNat) (fans := m.fans.length) (rooms := m.rooms.length)
 exact ⟨r, hr.symm⟩
def slLen : AV -> Option Nat
 | .nilslice => some 0
 | .vempty => some 0
 | .vslice l => some l.length
 | _ => none
theorem slLen_is {a : AV} {n : Nat} (h : slLen a = some n) : lenS a = some n /\ outV (some a) = some a /\ isTuple a = false := by
 unfold slLen at h
 split at h <;> cases h <;> exact ⟨rfl, rfl, rfl⟩
theorem slLen_mk {a : AV} {es : List AV} (h : isSl a es) : slLen a = some es.length := by rcases h with ⟨rfl | rfl, rfl⟩ | rfl <;> rfl
def sp21S : List AV -> Option AV
 | [.agg [.int .i64 _, ra, fa, oa, ha]] => match slLen ra, slLen fa, slLen oa, slLen ha with
  | some a, some b, some c, some d => some (.bool (decide ((a : Int) <= 5) && decide ((b : Int) <= 7) && decide ((c : Int) <= 6) && decide ((d : Int) <= 6)))
  | _, _, _, _ => none
 | _ => none
theorem F21S : IntrFn Tryz.prog 21 (pureFn sp21S) := by
 refine pure_fn (X := dX i0) i0_sound ?_ ?_
 ·intro args v h
  unfold sp21S at h
  split at h
  ·split at h
   ·cases h; rfl
   ·cases h
  ·cases h
 intro args v h
 unfold sp21S at h
 split at h
 ·rename_i n ra fa oa ha
  split at h
  ·rename_i a b c d v1 v2 v3 v4
   have h := Option.some.inj h
   obtain ⟨l1, o1, _⟩ := slLen_is v1
   obtain ⟨l2, o2, _⟩ := slLen_is v2
   obtain ⟨l3, o3, _⟩ := slLen_is v3
   obtain ⟨l4, o4, _⟩ := slLen_is v4
   subst h
   obtain ⟨r, hr⟩ : ∃ r, r = (decide ((a : Int) <= 5) && decide ((b : Int) <= 7) && decide ((c : Int) <= 6) && decide ((d : Int) <= 6)) := ⟨_, rfl⟩
   rw [<- hr]
   have hS := J1 hr
   clear v1 v2 v3 v4 hr
   refine ClR.walk (c := _) rfl Tryz.func21 rfl (by kernel_rfl) rfl isRet_fail ?_
   simp only [entryEnv, Nat.reduceAdd, emptyHp]
   repeat' (first | refine goS ?_ | (refine go2 ?_ ?_ <;> intro hh) | fail)
   all_goals (simp only [resV_def (X := dX i0) Tryz.func21, Tryz.results21]; first | exact J5 | refine J6 ?_)
   all_goals (rw [hS.out]; clear hS; first | (simp_all; done) | (simp_all; intros; omega))
  ·cases h
 ·cases h
theorem K22 {X : Ctx} (hX : X.intr 22 = some (pureFn sp22)) (h : Heap) : Cl X 22 [] h (.ret (.bool true) h none) := Cl.intr hX (by simp [pureFn, AV.purL, sp22])
structure HsI (m : Hs) (ra fa oa ha : AV) : Prop where
 r : isSl ra (m.rooms.map rmC.enc)
 f : isSl fa (m.fans.map faC.enc)
 o : isSl oa (m.op.map intC.enc)
 h : isSl ha (m.hands.map haC.enc)
theorem K21I {X : Ctx} (hX : X.intr 21 = some (pureFn sp21S)) {m : Hs} {ra fa oa ha : AV} (v : HsI m ra fa oa ha) (h : Heap) : Cl X 21 [.agg [.int .i64 m.hours, ra, fa, oa, ha]] h (.ret (.bool (shortB m)) h none) := by
 have h1 := slLen_mk v.r
 have h2 := slLen_mk v.f
 have h3 := slLen_mk v.o
 have h4 := slLen_mk v.h
 rw [List.length_map] at h1 h2 h3 h4
 have p1 := v.r.pur (enc_pur rmC _)
 have p2 := v.f.pur (enc_pur faC _)
 have p3 := v.o.pur (enc_pur intC _)
 have p4 := v.h.pur (enc_pur haC _)
 exact Cl.intr hX (by simp [pureFn, AV.pur, AV.purL, p1, p2, p3, p4, sp21S, h1, h2, h3, h4, shortB])
theorem HsI.short {m : Hs} {ra fa oa ha : AV} (v : HsI m ra fa oa ha) (g : shortB m = true) : HsA m ra fa oa ha := by
 unfold shortB at g
 simp only [Bool.and_eq_true, decide_eq_true_eq] at g
 obtain ⟨⟨⟨g1, g2⟩, g3⟩, g4⟩ := g
 exact ⟨slV_mk v.r (by unfold maxL; omega), slV_mk v.f (by unfold maxL; omega), slV_mk v.o (by unfold maxL; omega), slV_mk v.h (by unfold maxL; omega)⟩
theorem K24p {X : Ctx} (hX : X.intr 24 = some (flatFnD sp82)) {ra fa oa ha : AV} {m : Hs} (hm : HsA m ra fa oa ha) (h : Heap) :
  Cl X 24 [.agg [.int .i64 m.hours, ra, fa, oa, ha]] h (.ret (.bool (houseB m)) h none) := K24 hX (SeeV.of hm.r h) (SeeV.of hm.f h) (SeeV.of hm.o h) (SeeV.of hm.h h)
end Go.AM
