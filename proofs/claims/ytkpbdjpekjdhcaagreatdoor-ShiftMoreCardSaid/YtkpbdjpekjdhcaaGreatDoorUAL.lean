/-
  A part of the proof: contracts of functions.
-/
import Derived.Test.YtkpbdjpekjdhcaaGreatDoorUAK
set_option linter.unusedSectionVars false
set_option linter.unusedVariables false
set_option linter.unusedSimpArgs false
set_option maxRecDepth 100000
namespace Go.AM
open Go Go.Proofs
variable [Keep]
attribute [local irreducible] W WO WO1 WD WQ WT thenQ blockQ endR isRet retK Cl ClR
open Go.TX (Rm Fa Ha Hs)
attribute [local irreducible] failP fanP machP hourP madeF
def fksE (l : List Fl) : List AV := l.map fun f => fkC.enc f.tell
theorem fksE_app (l : List Fl) (f : Fl) : fksE (l ++ [f]) = fksE l ++ [fkC.enc f.tell] := by simp [fksE]
theorem fksE_len (l : List Fl) : (fksE l).length = l.length := by simp [fksE]
theorem hourP_len (p : List Fl) (mk : Int → Fl) (j : Nat) : (hourP p mk j).length = p.length + j := by
 induction j with
 | zero => unfold hourP; rfl
 | succ j ih => unfold hourP; rw [List.length_append, ih]; rfl
theorem fanP_len (n k : Nat) : (fanP n k).length = 1 + k * n := by
 induction k with
 | zero => unfold fanP; simp
 | succ k ih => unfold fanP; rw [hourP_len, ih, Nat.succ_mul]; omega
theorem machP_len (n : Nat) (p : List Fl) (k : Nat) : (machP n p k).length = p.length + k * n := by
 induction k with
 | zero => unfold machP; simp
 | succ k ih => unfold machP; rw [hourP_len, ih, Nat.succ_mul]; omega
theorem fail_len (n a b : Nat) : (failP n a b).length = 1 + a * n + b * n := by unfold failP; rw [machP_len, fanP_len]
theorem fail_29 {n a b : Nat} (hn : n ≤ 4) (ha : a ≤ 4) (hb : b ≤ 3) : (failP n a b).length ≤ 29 := by
 have h1 : a * n ≤ 4 * 4 := Nat.mul_le_mul ha hn
 have h2 : b * n ≤ 3 * 4 := Nat.mul_le_mul hb hn
 rw [fail_len]; omega
def failsH (m : Hs) : List Fl := failP m.hours.toNat m.fans.length m.rooms.length
theorem fails_29 {m : Hs} (ho : HOk m) : (failsH m).length ≤ 29 := by
 obtain ⟨nn, h1, h2, h3, h4, h5⟩ := ho_parts ho
 have h6 := ho.rooms
 have h7 := ho.fans
 exact fail_29 (by omega) (by omega) (by omega)
theorem fails_1 (m : Hs) : 1 ≤ (failsH m).length := by unfold failsH; rw [fail_len]; omega
theorem fks_sl (l : List Fl) (h : l.length ≤ maxL) : slV fkC (slN (fksE l)) = some (l.map Fl.tell) := by
 have : fksE l = (l.map Fl.tell).map fkC.enc := by simp [fksE]
 rw [this]
 exact slV_slN (by simpa using h)
def mmA : Int × Int → List Int → Int × Int
 | s, [] => s
 | s, n :: r => mmA (minV s.1 n, maxV s.2 n) r
def madesL (m : Hs) : List Int := (failsH m).map fun f => madeF m f m.hours.toNat m.rooms.length
def makesP (m : Hs) : Int × Int := match madesL m with
 | [] => (0, 0)
 | x :: r => mmA (x, x) r
attribute [local irreducible] mmA
section
variable {c : Itr}
end
end Go.AM
namespace Go.AM
open Go Go.Proofs
variable [Keep]
attribute [local irreducible] W WO WO1 WD WQ WT thenQ blockQ endR isRet retK Cl ClR
open Go.TX (Rm Fa Ha Hs)
attribute [local irreducible] roundQ RdR failP madeF houseB
theorem madeR_ok {m : Hs} (ho : HOk m) {f : Fl} {r : Nat} {n0 B : Int} (h0 : 0 ≤ n0) (hB : n0 ≤ B) (hB2 : B ≤ 1000000) : ∀ k : Nat, k ≤ 1000 → 0 ≤ madeR m f r n0 k ∧ madeR m f r n0 k ≤ B + 1000 * k := by
 intro k
 induction k with
 | zero => intro _; unfold madeR; omega
 | succ k ih =>
  intro hk
  have ih := ih (by omega)
  unfold madeR
  have hm : 0 ≤ (m.rooms.getD r rm0).mke ∧ (m.rooms.getD r rm0).mke ≤ 1000 := by
   cases hg : m.rooms[r]? with
   | none => simp [List.getD, hg, rm0]
   | some p =>
    have := ho.room p (List.mem_of_getElem? hg)
    simp only [List.getD, hg, Option.getD_some]
    omega
  split
  ·rw [w64_small (by omega) (by omega)]
   omega
  ·omega
theorem madeF_ok {m : Hs} (ho : HOk m) {f : Fl} {n : Nat} (hn : n ≤ 4) : ∀ r : Nat, r ≤ 4 → 0 ≤ madeF m f n r ∧ madeF m f n r ≤ 4000 * r := by
 intro r
 induction r with
 | zero => intro _; unfold madeF; omega
 | succ r ih =>
  intro hr
  have ih := ih (by omega)
  unfold madeF
  have := madeR_ok ho (f := f) (r := r) ih.1 ih.2 (by omega) n (by omega)
  omega
theorem made_ok {m : Hs} (ho : HOk m) (f : Fl) : 0 ≤ madeF m f m.hours.toNat m.rooms.length ∧ madeF m f m.hours.toNat m.rooms.length ≤ 12000 := by
 obtain ⟨nn, h1, h2, h3, h4, h5⟩ := ho_parts ho
 have h6 := ho.rooms
 have := madeF_ok ho (f := f) (n := m.hours.toNat) (by omega) m.rooms.length (by omega)
 omega
def stepM (m : Hs) (f : Fl) (s : Int × Int) : (Int × Int) × Bool :=
 let n := madeF m f m.hours.toNat m.rooms.length
 ((minV (if s.1 < 0 then n else s.1) n, maxV (if s.1 < 0 then n else s.2) n), true)
theorem fold_mm {m : Hs} (ho : HOk m) : ∀ (l : List Fl) (s : Int × Int), 0 ≤ s.1 → foldS (stepM m) l s = (mmA s (l.map fun f => madeF m f m.hours.toNat m.rooms.length), true)
 | [], s, h => by simp [foldS, mmA]
 | f :: l, s, h => by
  have hp := made_ok ho f
  have hlt : ¬ s.1 < 0 := by omega
  simp only [foldS, stepM, if_true, List.map_cons, mmA, if_neg hlt]
  have := fold_mm ho l (minV s.1 (madeF m f m.hours.toNat m.rooms.length), maxV s.2 (madeF m f m.hours.toNat m.rooms.length)) (by simp only [minV]; split <;> omega)
  exact this
theorem fold_made {m : Hs} (ho : HOk m) : foldS (stepM m) (failsH m) (-1, 0) = (makesP m, true) := by
 unfold makesP madesL
 have h1 := fails_1 m
 generalize failsH m = L at *
 cases L with
 | nil => simp at h1
 | cons f l =>
  have hp := made_ok ho f
  have e1 : minV (madeF m f m.hours.toNat m.rooms.length) (madeF m f m.hours.toNat m.rooms.length) = madeF m f m.hours.toNat m.rooms.length := by simp [minV]
  have e2 : maxV (madeF m f m.hours.toNat m.rooms.length) (madeF m f m.hours.toNat m.rooms.length) = madeF m f m.hours.toNat m.rooms.length := by simp [maxV]
  have hneg : ((-1 : Int) < 0) := by decide
  simp only [foldS, stepM, if_true, List.map_cons, if_pos hneg, e1, e2]
  have := fold_mm ho l (madeF m f m.hours.toNat m.rooms.length, madeF m f m.hours.toNat m.rooms.length) hp.1
  exact this
def Same1 (b K : Nat) (h0 : Heap) (s : Int × Int) (h : Heap) : Prop := h.get b = some (.var [.int .i64 s.1, .int .i64 s.2]) ∧ ∀ id, id < K → id ≠ b → h.get id = h0.get id
theorem K107 {X : Ctx} (hX : X.intr 107 = some (pureFn sp107)) {ra fa oa ha : AV} {m : Hs} (hm : HsA m ra fa oa ha) (hw : walkB m = true) (f : Fl) (h : Heap) :
  Cl X 107 [.agg [.int .i64 m.hours, ra, fa, oa, ha, f.enc]] h (.ret (.int .i64 (madeF m f m.hours.toNat m.rooms.length)) h none) :=
 Cl.intr hX (by simp [pureFn, AV.pur, AV.purL, sl_pur hm.r, sl_pur hm.f, sl_pur hm.o, sl_pur hm.h, (fl_parts f).2.2.2, sp107, hsV, hm.r, hm.f, hm.o, hm.h, flV_enc, hw])
theorem K82p {X : Ctx} (hX : X.intr 82 = some (flatFnD sp82)) {ra fa oa ha : AV} {m : Hs} (hm : HsA m ra fa oa ha) (h : Heap) :
  Cl X 82 [.agg [.int .i64 m.hours, ra, fa, oa, ha]] h (.ret (.bool (houseB m)) h none) := K82 hX (SeeV.of hm.r h) (SeeV.of hm.f h) (SeeV.of hm.o h) (SeeV.of hm.h h)
theorem round_go {σ : Type} {I D : σ → Heap → Prop} {X : Ctx} {id : Nat} {F : Fr} {x : σ × Bool} {s' : σ} {f : FuncId} {e : Mp AV} {ps : List Tmp} {a b : Code} {st : LoopState} {p : Option Code} (hL : F.hp.get id = some (.loop f e ps a b st p)) (e1 : x = (s', true))
  (hI : I s' (F.hp.put id (.loop f e ps a b .ready none))) : roundQ X id (stI I D .bool x) (.norm F) := by
 rw [roundQ_norm]
 simp only [endV, hL]
 exact stI_go (v := .bool) e1 hI
def makesV (m : Hs) : AV := if houseB m = true then .tuple [.agg [.int .i64 (makesP m).1, .int .i64 (makesP m).2], .int .i64 0] else .tuple [.agg [.int .i64 0, .int .i64 0], .int .i64 2]
def sp36 : List AV → Option AV
 | [x] => (hsV x).map makesV
 | _ => none
theorem p36 : ∀ args v, sp36 args = some v → v.pur = true := by
 intro args v h
 unfold sp36 at h
 split at h
 ·simp only [Option.map_eq_some_iff] at h
  obtain ⟨m, _, rfl⟩ := h
  unfold makesV
  split <;> rfl
 ·cases h
noncomputable def cND : Itr
 | 82 => some (flatFnD sp82)
 | 107 => some (pureFn sp107)
 | 106 => some (pureFn sp106)
 | _ => none
theorem cND_sound : Sound (dX cND) := dX_sound (fun f g h => by
 unfold cND at h
 split at h
 ·cases h; exact F82D
 ·cases h; exact F107
 ·cases h; exact F106
 ·cases h)
set_option maxHeartbeats 8000000 in
theorem R36 (m : Hs) (ra fa oa ha : AV) (hm : HsA m ra fa oa ha) : ClR (dX cND) 36 [.agg [.int .i64 m.hours, ra, fa, oa, ha]] emptyHp (isRet (makesV m)) := by
 have o1 := sl_out hm.r
 have o2 := sl_out hm.f
 have o3 := sl_out hm.o
 have o4 := sl_out hm.h
 have k82 := fun h => K82p (X := dX cND) rfl hm h
 have f1 := (slV_is hm.r).1.frz1
 have f2 := (slV_is hm.f).1.frz1
 have f3 := (slV_is hm.o).1.frz1
 have f4 := (slV_is hm.h).1.frz1
 cases hb : houseB m with
 | false =>
  rw [hb] at k82
  have hv : makesV m = .tuple [.agg [.int .i64 0, .int .i64 0], .int .i64 2] := by unfold makesV; rw [hb]; rfl
  rw [hv]
  clear hm hb hv
  refine ClR.walk (c := _) rfl Tryz.func36 rfl (by kernel_rfl) rfl isRet_fail ?_
  try simp only [entryEnv, Nat.reduceAdd, List.nil_append, List.cons_append, emptyHp]
  repeat' (first | refine goS ?_ | (apply U6; exact Z1; exact Z1; (focus (simp only [List.nil_append, List.append_nil]; first | exact k82 _)); simp only [pM, pN, rR, rP]) | refine go2 (fun hh => ?_) (fun hh => ?_) | fail)
  all_goals (simp only [resV_def (X := dX cND) Tryz.func36, Tryz.results36]; first | exact J5 | refine J6 ?_)
  all_goals rfl
 | true =>
  rw [hb] at k82
  have hv : makesV m = .tuple [.agg [.int .i64 (makesP m).1, .int .i64 (makesP m).2], .int .i64 0] := by unfold makesV; rw [hb]; rfl
  rw [hv]
  have ho := house_ok hb
  obtain ⟨nn, hnn, hnt, hn1, hn4, hol⟩ := ho_parts ho
  have hfold := fold_made ho
  have k107 := fun f h => K107 (X := dX cND) rfl hm (ho_walk ho) f h
  have h108 := C108 cND rfl m.hours ra fa oa ha o1 o2 o3 o4 2
  have c150 := fun (I D : Int × Int → Heap → Prop) (L : Nat) => C150 I D (stepM m) cND rfl m ra fa oa ha hm.r hm.f ⟨o3, o4⟩ nn hnn (by omega) 2 L
  have hfh : failsH m = failP nn m.fans.length m.rooms.length := by unfold failsH; rw [hnt]
  rw [hfh] at hfold
  have HC := Lib.hid c150
  have HFO := Lib.hid hfold
  have hmn : ∀ a b : Int, foldV minV .i64 a [.int .i64 b] = some (.int .i64 (minV a b)) := fun _ _ => rfl
  have hmx : ∀ a b : Int, foldV maxV .i64 a [.int .i64 b] = some (.int .i64 (maxV a b)) := fun _ _ => rfl
  have hst : ∀ fl s, stepM m fl s = ((minV (if s.1 < 0 then madeF m fl m.hours.toNat m.rooms.length else s.1) (madeF m fl m.hours.toNat m.rooms.length), maxV (if s.1 < 0 then madeF m fl m.hours.toNat m.rooms.length else s.2) (madeF m fl m.hours.toNat m.rooms.length)), true) := fun _ _ => rfl
  have HST := Lib.hid hst
  clear hm hb hv ho hfold c150 hfh hol hn1 hn4 hst hnn hnt
  refine ClR.walk (c := _) rfl Tryz.func36 rfl (by kernel_rfl) rfl isRet_fail ?_
  try simp only [entryEnv, Nat.reduceAdd, List.nil_append, List.cons_append, emptyHp]
  repeat' (first | refine goS ?_ | (apply U6; exact Z1; exact Z1; (focus (simp only [List.nil_append, List.append_nil]; first | exact k82 _ | exact h108 _)); simp only [pM, pN, rR, rP]) | refine go2 (fun hh => ?_) (fun hh => ?_) | fail)
  apply W.rangeEnds (R := stI (Same1 1 4 _) (fun _ _ => False) (fun _ => .tuple []) (foldS (stepM m) (failP nn m.fans.length m.rooms.length) (-1, 0)))
  ·exact Z1
  ·refine HC.out _ _ 3 ?_ ?_ (-1, 0) _ ⟨?_, fun _ _ _ => rfl⟩
   ·intro s h hs
    rw [hs.2 2 (by omega) (by omega)]
    simp [Heap.new, Heap.get]
   ·intro fl s h hmem hs
    obtain ⟨s1, s2⟩ := s
    have g1 := hs.1
    have g0 : h.get 0 = some (.var [.int .i64 m.hours, ra, fa, oa, ha]) := by rw [hs.2 0 (by omega) (by omega)]; simp [Heap.new, Heap.get]
    have hL := hs.2 3 (by omega) (by omega)
    rw [Heap.get_new, if_pos rfl] at hL
    obtain ⟨er, hE, hL⟩ : ∃ er, er = _ ∧ h.get 3 = some (.loop 36 er _ _ _ .ready none) := ⟨_, rfl, hL⟩
    have r1 : er.get 1 = some (.ptr 0 0) := by rw [hE, Mp.get_map]; simp [go_sem, *, noBox]
    have r4 : er.get 4 = some (.ptr 1 0) := by rw [hE, Mp.get_map]; simp [go_sem, *, noBox]
    obtain ⟨fo, fcl, fit, _⟩ := fl_parts fl
    have k107 := k107 fl
    have hst := HST.out fl (s1, s2)
    have HS := Lib.hid hs.2
    have HL := Lib.hid hL
    simp only [AV.cells] at fcl
    simp only [isTuple] at fit
    simp only at g1
    refine round_ok' hL rfl ?_
    clear hL hE hs
    rw [hst]
    generalize madeF m fl m.hours.toNat m.rooms.length = n at *
    generalize fl.enc = fv at *
    clear hst
    repeat' (first | refine goS ?_ | refine go2 (fun hh => ?_) (fun hh => ?_) | fail)
    rintro ⟨qn, qm⟩ hqn hqg hqL
    have q0 := (hqg 0 (by omega)).trans g0
    have q1 := (hqg 1 (by omega)).trans g1
    have HQN := Lib.hid hqn
    have HQG := Lib.hid hqg
    have HQL := Lib.hid hqL
    simp only [hp_get] at q0 q1
    clear hqn hqg hqL g0 g1
    cases hb : decide (s1 < 0) with
    | false =>
     have hb' : ¬ s1 < 0 := by simpa using hb
     simp only [if_neg hb']
     repeat' (first | refine goS ?_ | (apply U6; exact Z1; exact Z1; (focus (simp only [List.nil_append, List.append_nil]; first | exact k107 _)); simp only [pM, pN, rR, rP]) | refine go2 (fun hh => ?_) (fun hh => ?_) | fail)
     refine round_go (s' := (minV s1 n, maxV s2 n)) (by have := HQL.out; simp only [hp_get] at this ⊢; simpa [Mp.get_set] using this) rfl ⟨?_, ?_⟩
     ·simp [Heap.get, Heap.put]
     ·intro id hid h1
      by_cases h5 : id = 3
      ·subst h5
       rw [Heap.get_put, if_pos rfl, ← HL.out]
       exact HS.out 3 hid h1
      ·rw [Heap.get_put, if_neg (fun e => h5 e.symm)]
       have := HQG.out id h5
       simp only [hp_get] at this ⊢
       simp only [Mp.get_set, if_neg (Ne.symm h1)]
       rw [this]
       exact HS.out id hid h1
    | true =>
     have hb' : s1 < 0 := by simpa using hb
     simp only [if_pos hb']
     repeat' (first | refine goS ?_ | (apply U6; exact Z1; exact Z1; (focus (simp only [List.nil_append, List.append_nil]; first | exact k107 _)); simp only [pM, pN, rR, rP]) | refine go2 (fun hh => ?_) (fun hh => ?_) | fail)
     refine round_go (s' := (minV n n, maxV n n)) (by have := HQL.out; simp only [hp_get] at this ⊢; simpa [Mp.get_set] using this) rfl ⟨?_, ?_⟩
     ·simp [Heap.get, Heap.put]
     ·intro id hid h1
      by_cases h5 : id = 3
      ·subst h5
       rw [Heap.get_put, if_pos rfl, ← HL.out]
       exact HS.out 3 hid h1
      ·rw [Heap.get_put, if_neg (fun e => h5 e.symm)]
       have := HQG.out id h5
       simp only [hp_get] at this ⊢
       simp only [Mp.get_set, if_neg (Ne.symm h1)]
       rw [this]
       exact HS.out id hid h1
   ·simp [Heap.new, Heap.get]
  ·intro r hcl hR
   rw [HFO.out] at hR
   obtain ⟨h', rfl, i1, _⟩ := hR
   have hs := i1 rfl
   have hL := hs.2 3 (by omega) (by omega)
   rw [Heap.get_new, if_pos rfl] at hL
   have g1 := hs.1
   clear hs i1 k107 HC h108 HFO HST
   refine W.rangeNorm rfl ?_ hcl hL (fun e => by cases e) ?_
   ·first | exact Z2 | exact Z1
   clear hcl hL
   generalize hput : Heap.put h' _ _ = hz
   obtain ⟨zn, zm⟩ := hz
   have z1 : zm.get 1 = some (.var [.int .i64 (makesP m).1, .int .i64 (makesP m).2]) := by
    rw [← hp_get (n := zn), ← hput, Heap.get_put, if_neg (by simp only; omega)]
    exact g1
   clear hput g1
   simp only [bN, tN]
   generalize (makesP m).1 = lo at *
   generalize (makesP m).2 = hi at *
   repeat' (first | refine goS ?_ | refine go2 (fun hh => ?_) (fun hh => ?_) | fail)
   all_goals (simp only [resV_def (X := dX cND) Tryz.func36, Tryz.results36]; first | exact J5 | refine J6 ?_)
   all_goals rfl
end Go.AM
namespace Go.AM
open Go Go.Proofs
variable [Keep]
attribute [local irreducible] W WO WO1 WD WQ WT thenQ blockQ endR isRet retK Cl ClR
open Go.TX (Rm Fa Ha Hs)
theorem hourP_mem_iff {p : List Fl} {mk : Int → Fl} {f : Fl} : ∀ {j : Nat}, f ∈ hourP p mk j ↔ f ∈ p ∨ ∃ i : Nat, i < j ∧ f = mk i := by
 intro j
 induction j with
 | zero => unfold hourP; simp
 | succ j ih =>
  unfold hourP
  rw [List.mem_append, ih, List.mem_singleton]
  constructor
  ·rintro ((h | ⟨i, hi, rfl⟩) | rfl)
   ·exact .inl h
   ·exact .inr ⟨i, by omega, rfl⟩
   ·exact .inr ⟨j, by omega, rfl⟩
  ·rintro (h | ⟨i, hi, rfl⟩)
   ·exact .inl (.inl h)
   ·by_cases e : i = j
    ·subst e; exact .inr rfl
    ·exact .inl (.inr ⟨i, by omega, rfl⟩)
theorem fanP_mem_iff {n : Nat} {f : Fl} : ∀ {a : Nat}, f ∈ fanP n a ↔ f = .no ∨ ∃ k i : Nat, k < a ∧ i < n ∧ f = .fan k i := by
 intro a
 induction a with
 | zero => unfold fanP; simp
 | succ a ih =>
  unfold fanP
  rw [hourP_mem_iff, ih]
  constructor
  ·rintro ((h | ⟨k, i, hk, hi, rfl⟩) | ⟨i, hi, rfl⟩)
   ·exact .inl h
   ·exact .inr ⟨k, i, by omega, hi, rfl⟩
   ·exact .inr ⟨a, i, by omega, hi, rfl⟩
  ·rintro (h | ⟨k, i, hk, hi, rfl⟩)
   ·exact .inl (.inl h)
   ·by_cases e : k = a
    ·subst e; exact .inr ⟨i, hi, rfl⟩
    ·exact .inl (.inr ⟨k, i, by omega, hi, rfl⟩)
theorem machP_mem_iff {n : Nat} {p : List Fl} {f : Fl} : ∀ {b : Nat}, f ∈ machP n p b ↔ f ∈ p ∨ ∃ k i : Nat, k < b ∧ i < n ∧ f = .mach k i := by
 intro a
 induction a with
 | zero => unfold machP; simp
 | succ a ih =>
  unfold machP
  rw [hourP_mem_iff, ih]
  constructor
  ·rintro ((h | ⟨k, i, hk, hi, rfl⟩) | ⟨i, hi, rfl⟩)
   ·exact .inl h
   ·exact .inr ⟨k, i, by omega, hi, rfl⟩
   ·exact .inr ⟨a, i, by omega, hi, rfl⟩
  ·rintro (h | ⟨k, i, hk, hi, rfl⟩)
   ·exact .inl (.inl h)
   ·by_cases e : k = a
    ·subst e; exact .inr ⟨i, hi, rfl⟩
    ·exact .inl (.inr ⟨k, i, by omega, hi, rfl⟩)
theorem fkEq_iff {a b : Fk} : fkEq a b = true ↔ a = b := by
 obtain ⟨a1, a2, a3⟩ := a
 obtain ⟨b1, b2, b3⟩ := b
 simp [fkEq, and_assoc]
theorem inB_iff {x lo hi : Int} : inB x lo hi = true ↔ lo ≤ x ∧ x ≤ hi := by
 unfold inB
 simp only [Bool.and_eq_true, decide_eq_true_eq, ge_iff_le]
theorem fails_cons (m : Hs) : ∃ l, failsH m = .no :: l := by
 obtain ⟨r, hr⟩ := fail_no (n := m.hours.toNat) (fans := m.fans.length) (rooms := m.rooms.length)
 exact ⟨r, hr.symm⟩
end Go.AM
