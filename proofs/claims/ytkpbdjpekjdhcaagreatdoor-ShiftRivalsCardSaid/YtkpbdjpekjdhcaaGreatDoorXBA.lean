/-
  A part of the proof: contracts of functions.
-/
import Derived.Test.YtkpbdjpekjdhcaaGreatDoorXAT
import Derived.Test.YtkpbdjpekjdhcaaGreatDoorXAU
import Derived.Test.YtkpbdjpekjdhcaaGreatDoorXAX
import Derived.Test.YtkpbdjpekjdhcaaGreatDoorXAZ
set_option linter.unusedSectionVars false
set_option linter.unusedVariables false
set_option linter.unusedSimpArgs false
set_option maxRecDepth 100000
namespace Go.AM
open Go Go.Proofs
variable [Keep]
attribute [local irreducible] W WO WO1 WD WQ WT thenQ blockQ endR isRet retK Cl ClR
open Go.TX (Rm Fa Ha Hs mapO mapO_len)
attribute [local irreducible] roundQ RdR failP lowsP highsP
theorem eqT52 (a b : Fk) : eqT Tryz.prog eqDepth 52 (fkC.enc a) (fkC.enc b) = some (fkEq a b) := by
 have hst : Tryz.prog.stoodInHeld 52 = false := by kernel_rfl
 have l50 : lay Tryz.prog 50 = some (false, 1) := by kernel_rfl
 have e3 : ∀ x y : Int, eqT Tryz.prog 7 3 (.int .i64 x) (.int .i64 y) = some (x == y) := fun x y => by rw [eqT.eq_def]; simp only [Tryz.underlying3, if_true]
 have e50 : ∀ x y : Int, eqT Tryz.prog 7 50 (.int .i64 x) (.int .i64 y) = some (x == y) := fun x y => by rw [eqT.eq_def]; simp only [Tryz.underlying50, if_true]
 unfold eqDepth fkEq
 rw [eqT.eq_def]
 simp only [Tryz.underlying52, fkC, hst, Bool.false_eq_true, if_false]
 generalize eqT Tryz.prog 7 = f at *
 simp [eqFields, readT, readAt, l50, ty_lay3, e3, e50]
 cases a.what == b.what <;> cases a.num == b.num <;> cases a.hour == b.hour <;> rfl
theorem key52 (a : Fk) : keyOf Tryz.prog 52 (fkC.enc a) = true := by
 unfold keyOf
 rw [eqT52]
 have : fkEq a a = true := by simp [fkEq]
 rw [this]
 simp [keyV, scalarV, fkC]
def entE (m : Hs) (l : List Fl) : List (AV × AV) := l.map fun f => (fkC.enc f.tell, boundsE m f)
theorem tell_inj {a b : Fl} (h : a.tell = b.tell) : a = b := by
 cases a <;> cases b <;> simp only [Fl.tell, Fk.mk.injEq] at h <;> (first | rfl | (obtain ⟨h1, h2, h3⟩ := h; first | (subst h2; subst h3; rfl) | omega))
theorem put52 (m : Hs) (f : Fl) (v : AV) : ∀ l : List Fl, f ∉ l -> mapPut Tryz.prog 52 (fkC.enc f.tell) v (entE m l) = some (entE m l ++ [(fkC.enc f.tell, v)])
 | [], _ => rfl
 | g :: l, h => by
  have hne : fkEq f.tell g.tell = false := by
   cases hq : fkEq f.tell g.tell with
   | false => rfl
   | true => exact absurd (tell_inj (fkEq_iff.1 hq)) (fun e => h (by simp [e]))
  have ih := put52 m f v l (fun e => h (by simp [e]))
  show (match eqT Tryz.prog eqDepth 52 (fkC.enc f.tell) (fkC.enc g.tell) with | some true => _ | some false => _ | none => _) = _
  rw [eqT52, hne]
  show (match mapPut Tryz.prog 52 (fkC.enc f.tell) v (entE m l) with | some l => _ | none => _) = _
  rw [ih]
  rfl
theorem find52 (m : Hs) (f : Fl) : ∀ l : List Fl, f ∈ l -> findV Tryz.prog 52 (fkC.enc f.tell) (entE m l) = some (some (boundsE m f))
 | [], h => by cases h
 | g :: l, h => by
  show (match eqT Tryz.prog eqDepth 52 (fkC.enc f.tell) (fkC.enc g.tell) with | some true => _ | some false => _ | none => _) = _
  rw [eqT52]
  cases hq : fkEq f.tell g.tell with
  | true =>
   have := tell_inj (fkEq_iff.1 hq)
   subst this
   rfl
  | false =>
   have : f ≠ g := fun e => by subst e; simp [fkEq] at hq
   exact find52 m f l (by rcases List.mem_cons.1 h with e | e; exact absurd e this; exact e)
theorem look52 {m : Hs} {h : Heap} {id : Nat} {l : List Fl} (hg : h.get id = some (.mp (entE m l))) {f : Fl} (hf : f ∈ l) : lookupV Tryz.prog h 128 (.map id) (fkC.enc f.tell) false = some (boundsE m f) := by
 simp only [lookupV, Tryz.underlying128, key52, if_true, entriesV, hg, find52 m f l hf, Bool.false_eq_true, if_false]
theorem day_dust {m : Hs} (ho : HOk m) {h : Heap} {id : Nat} {l : List Fl} (hg : h.get id = some (.mp (entE m l))) {f : Fl} (hf : f ∈ l) : dustAt h (.map id) f.tell = some (lowsP m f m.rooms.length, highsP m f m.rooms.length) := by
 have hr := ho.rooms
 have hh := ho.hours
 have hl : ∀ x, x ∈ lowsP m f m.rooms.length \/ x ∈ highsP m f m.rooms.length -> x.length <= maxL := by
  have key : ∀ k : Nat, ∀ x, x ∈ lowsP m f k \/ x ∈ highsP m f k -> x.length <= maxL := by
   intro k
   induction k with
   | zero => intro x hx; unfold lowsP highsP at hx; simp at hx
   | succ k ih =>
    intro x hx
    obtain ⟨e1, e2⟩ := lows_succ m f k
    rw [e1, e2] at hx
    simp only [List.mem_append, List.mem_singleton] at hx
    have hb : m.hours.toNat <= maxL := by unfold maxL; omega
    rcases hx with (hx | hx) | (hx | hx)
    ·exact ih x (.inl hx)
    ·rw [hx, row_len]; exact hb
    ·exact ih x (.inr hx)
    ·rw [hx, row_len]; exact hb
  exact key _
 have h1 := rows_lis (g := lowsP m f m.rooms.length) (by rw [(lows_len m f _).1]; unfold maxL; omega) fun x hx => hl x (.inl hx)
 have h2 := rows_lis (g := highsP m f m.rooms.length) (by rw [(lows_len m f _).2]; unfold maxL; omega) fun x hx => hl x (.inr hx)
 unfold dustAt
 rw [look52 hg hf]
 simp only [boundsE, h1, h2]
section
variable {X : Ctx} {ops : Array Oper} {K P : AV -> Fr -> Prop} {F : Fr} {d : Option Tmp} {T : TypeId} {ps : String} {af : Array Edge}
theorem WO1.mapUp {t kt et : TypeId} {m k v : Operand} {id : Nat} {x y : AV} {es es' : List (AV × AV)} (hu : X.P.underlying t = some (.map kt et)) (hm : F.opv m = some (.map id)) (hk : F.opv k = some x) (hv : F.opv v = some y)
  (hkey : keyOf X.P kt x = true) (hg : F.hp.get id = some (.mp es)) (hp : mapPut X.P kt x y es = some es') (h : K undefA (({ F with hp := F.hp.put id (.mp es') } : Fr).put d undefA)) : WO1 X ops ⟨d, .mapUpdate t m k v, T, ps, af, none⟩ F K P := by
 refine U5 (v := undefA) (F' := { F with hp := F.hp.put id (.mp es') }) rfl (fun cl rd => ?_) h
 simp only [efV, Fr.mapUpdateE, hu, hm, hk, hv, hkey, if_true, hg, hp]
end
theorem hourP_nodup {p : List Fl} {mk : Int -> Fl} (hp : p.Nodup) (hi : ∀ a b, mk a = mk b -> a = b) (hn : ∀ i : Int, mk i ∉ p) : ∀ j, (hourP p mk j).Nodup := by
 intro j
 induction j with
 | zero => unfold hourP; exact hp
 | succ j ih =>
  unfold hourP
  rw [List.nodup_append]
  refine ⟨ih, by simp, fun a ha b hb => ?_⟩
  rw [List.mem_singleton] at hb
  subst hb
  rintro rfl
  rcases hourP_mem_iff.1 ha with h | ⟨i, h1, h2⟩
  ·exact hn _ h
  ·have := hi _ _ h2; omega
theorem fanP_nodup (n : Nat) : ∀ a, (fanP n a).Nodup := by
 intro a
 induction a with
 | zero => unfold fanP; simp
 | succ a ih =>
  unfold fanP
  refine hourP_nodup ih (fun x y h => by cases h; rfl) (fun i h => ?_) n
  rcases fanP_mem_iff.1 h with h | ⟨k, j, h1, h2, h3⟩
  ·cases h
  ·cases h3; omega
theorem fails_nodup (n a b : Nat) : (failP n a b).Nodup := by
 unfold failP
 induction b with
 | zero => unfold machP; exact fanP_nodup n a
 | succ b ih =>
  unfold machP
  refine hourP_nodup ih (fun x y h => by cases h; rfl) (fun i h => ?_) n
  rcases machP_mem_iff.1 h with h | ⟨k, j, h1, h2, h3⟩
  ·rcases fanP_mem_iff.1 h with h | ⟨k, j, h1, h2, h3⟩
   ·cases h
   ·cases h3
  ·cases h3; omega
end Go.AM
namespace Go.AM
open Go Go.Proofs
variable [Keep]
attribute [local irreducible] W WO WO1 WD WQ WT thenQ blockQ endR isRet retK Cl ClR
open Go.TX (Rm Fa Ha Hs mapO mapO_len)
attribute [local irreducible] roundQ RdR failP lowsP highsP boundsE
def dayR (m : Hs) (ra fa oa ha : AV) (h : Heap) (r : COut) : Prop := ∃ h' a mid l, r = .ret (.agg [.int .i64 m.hours, ra, fa, oa, ha, a, .map mid]) h' none /\ HExt h h' /\ slV fkC a = some ((failsH m).map Fl.tell) /\ h'.get mid = some (.mp (entE m l)) /\ (∀ f ∈ failsH m, f ∈ l) /\ mid < h'.next
theorem dayR_fail {m : Hs} {ra fa oa ha : AV} {h : Heap} : ¬ dayR m ra fa oa ha h .fail := by rintro ⟨_, _, _, _, e, _⟩; cases e
theorem offs (n : Nat) : ((n + 1 == n) = false) /\ ((n + 1 + 1 == n) = false) /\ ((n + 1 + 1 + 1 == n) = false) /\ ((n + 1 + 1 + 1 + 1 == n) = false) /\ ((n == n + 1) = false) /\ ((n == n + 1 + 1) = false) /\ ((n == n + 1 + 1 + 1) = false) /\ ((n == n + 1 + 1 + 1 + 1) = false) := by
 refine ⟨?_, ?_, ?_, ?_, ?_, ?_, ?_, ?_⟩ <;> (simp only [beq_eq_false_iff_ne, ne_eq]; omega)
def stepA (f : Fl) (s : List Fl) : List Fl × Bool := (s ++ [f], true)
theorem fold_all : ∀ (l s : List Fl), foldS stepA l s = (s ++ l, true)
 | [], s => by simp [foldS]
 | f :: l, s => by
  have h := fold_all l (s ++ [f])
  show (if (stepA f s).2 then foldS stepA l (stepA f s).1 else stepA f s) = _
  simp only [stepA] at h ⊢
  simp only [if_true]
  first | (rw [h]; simp) | (show foldS stepA l (s ++ [f]) = _; rw [fold_all]; simp)
def dayI (m : Hs) (ra fa oa ha : AV) (hn : Nat) (h0 : Heap) (s : List Fl) (h : Heap) : Prop := ∃ v, h.get (hn + 1 + 1) = some (.var [.int .i64 m.hours, ra, fa, oa, ha, v, .map (hn + 1)]) /\ BltN (hn + 1 + 1 + 1 + 1 + 1) h v 3 (fksE s) /\ h.get (hn + 1) = some (.mp (entE m s)) /\
 (∀ id, id < hn + 1 + 1 + 1 + 1 + 1 -> id ≠ hn + 1 -> id ≠ hn + 1 + 1 -> h.get id = h0.get id) /\ hn + 1 + 1 + 1 + 1 + 1 <= h.next
theorem BltN.other {b : Nat} {h h' : Heap} {v : AV} {sz : Nat} {l : List AV} (q : BltN b h v sz l) (hx : h.next <= h'.next) (hg : ∀ id, b <= id -> h'.get id = h.get id) : BltN b h' v sz l := by
 rcases q with q | ⟨id, h1, h2, h3, h4, h5⟩
 ·exact .inl q
 ·exact .inr ⟨id, h1, (hg id h3).trans h2, h3, Nat.lt_of_lt_of_le h4 hx, h5⟩
theorem K137 {X : Ctx} (hX : X.intr 137 = some (pureFn sp137)) {ra fa oa ha : AV} {m : Hs} (hm : HsA m ra fa oa ha) (hw : walkB m = true) (f : Fl) (h : Heap) :
  Cl X 137 [.agg [.int .i64 m.hours, ra, fa, oa, ha, f.enc]] h (.ret (boundsE m f) h none) :=
 Cl.intr hX (by simp only [pureFn, AV.pur, AV.purL, sl_pur hm.r, sl_pur hm.f, sl_pur hm.o, sl_pur hm.h, (fl_parts f).2.2.2, Bool.and_self, if_true, sp137, hm.hs, flV_enc, hw])
structure CxD (c : Itr) : Prop where
 h83 : c 83 = none
 h108 : c 108 = none
 h150 : c 150 = none
 h136 : c 136 = some (pureFn sp136)
 h137 : c 137 = some (pureFn sp137)
set_option maxHeartbeats 8000000 in
theorem C83 {c : Itr} (hc : CxD c) (m : Hs) (ra fa oa ha : AV) (hm : HsA m ra fa oa ha) (ho : HOk m) (hn : Nat) (hmm : Mp Blk) :
  ClR (dX c) 83 [.agg [.int .i64 m.hours, ra, fa, oa, ha]] ⟨hn, hmm⟩ (dayR m ra fa oa ha ⟨hn, hmm⟩) := by
 have o1 := sl_out hm.r
 have o2 := sl_out hm.f
 have o3 := sl_out hm.o
 have o4 := sl_out hm.h
 have f1 := (slV_is hm.r).1.frz1
 have f2 := (slV_is hm.f).1.frz1
 have f3 := (slV_is hm.o).1.frz1
 have f4 := (slV_is hm.h).1.frz1
 have h0 := hc.h83
 obtain ⟨nn, hnn, hnt, hn1, hn4, hol⟩ := ho_parts ho
 have h108 := C108 c hc.h108 m.hours ra fa oa ha o1 o2 o3 o4 (hn + 1 + 1 + 1)
 have c150 := fun (I D : List Fl -> Heap -> Prop) (L : Nat) => C150s I D stepA c hc.h150 m ra fa oa ha hm.r hm.f ⟨o3, o4⟩ nn hnn (by omega) (hn + 1 + 1 + 1) L
 have k136 := fun f h => K136 (X := dX c) hc.h136 f h
 have k137 := fun f h => K137 (X := dX c) hc.h137 hm (ho_walk ho) f h
 have hfh : failsH m = failP nn m.fans.length m.rooms.length := by unfold failsH; rw [hnt]
 have h29 := fails_29 ho
 obtain ⟨a1, a2, a3, a4, a5, a6, a7, a8⟩ := offs hn
 obtain ⟨b1, b2, b3, -, b5, b6, b7, -⟩ := offs (hn + 1)
 obtain ⟨d1, d2, -, -, d5, d6, -, -⟩ := offs (hn + 1 + 1)
 obtain ⟨e1, -, -, -, e5, -, -, -⟩ := offs (hn + 1 + 1 + 1)
 have HC := J1 c150
 have HFH := J1 hfh
 have H29 := J1 h29
 clear hm ho hc c150 hnn hnt hn1 hn4 hol hfh h29
 refine ClR.walk (c := _) h0 Tryz.func83 rfl (by kernel_rfl) rfl dayR_fail ?_
 try simp only [entryEnv, Nat.reduceAdd, List.nil_append, List.cons_append, emptyHp]
 repeat' (first | (apply U5; exact rfl; (focus (intro cl rd; simp only [go_sem, *, Nat.reduceLT, Int.reduceEq, Int.reduceBEq, Int.reduceLE, Int.reduceLT, Nat.reduceAdd, Nat.reduceBEq, Nat.reduceEqDiff, reduceIte, Nat.reduceLeDiff, Nat.reduceMul, Nat.reduceSub, reduceCtorEq, efV, Fr.mapE, okO]; with_reducible rfl)); simp only [pM, pN]) | refine go1 ?_ | (apply U6; exact Z1; exact Z1; (exact h108 _); simp only [pM, pN, rR, rP]) | (refine go2 ?_ ?_ <;> intro hh) | fail)
 apply W.rangeEnds (R := stI (dayI m ra fa oa ha hn _) (fun _ _ => False) (fun _ => .tuple []) (foldS stepA (failP nn m.fans.length m.rooms.length) []))
 ·exact Z1
 ·refine HC.out _ _ (hn + 1 + 1 + 1 + 1) ?_ [] ?_ _ ⟨.nilslice, ?_, BltN.nil, ?_, (fun id h1 h2 h3 => rfl), ?_⟩
  ·intro s h hs
   obtain ⟨v, g1, g2, g3, g5, g6⟩ := hs
   rw [g5 (hn + 1 + 1 + 1) (by omega) (by omega) (by omega), Heap.get_new, if_neg (by simp only; omega)]
   simp only [hp_get, get_set_same]
  ·intro fl s h lp hpre hfo hs
   have hls : lp = s := by rw [fold_all] at hfo; simpa using hfo
   subst hls
   have hnd : fl ∉ lp := by
    have := (fails_nodup nn m.fans.length m.rooms.length).sublist hpre.sublist
    rw [List.nodup_append] at this
    intro hmem
    exact this.2.2 fl hmem fl (by simp) rfl
   have hlen : lp.length + 1 <= 29 := by
    have h1 := hpre.length_le
    have h2 := H29.out
    rw [HFH.out] at h2
    simp only [List.length_append, List.length_cons, List.length_nil] at h1
    omega
   obtain ⟨v, g2, hB0, g1, g5, g6⟩ := hs
   have g0 : h.get hn = some (.var [.int .i64 m.hours, ra, fa, oa, ha]) := by
    rw [g5 hn (by omega) (by omega) (by omega), Heap.get_new, if_neg (by simp only; omega)]
    simp only [hp_get, get_set_same, get_set_lit, a1, a2, a3]
   have hL := g5 (hn + 1 + 1 + 1 + 1) (by omega) (by omega) (by omega)
   rw [Heap.get_new, if_pos rfl] at hL
   obtain ⟨er, hE, hL⟩ : ∃ er, er = _ /\ h.get (hn + 1 + 1 + 1 + 1) = some (.loop 83 er _ _ _ .ready none) := ⟨_, rfl, hL⟩
   have r1 : er.get 1 = some (.ptr hn 0) := by rw [hE, Mp.get_map]; simp [go_sem, *, noBox]
   have r3 : er.get 3 = some (.ptr (hn + 1 + 1) 0) := by rw [hE, Mp.get_map]; simp [go_sem, *, noBox]
   obtain ⟨fo, fcl, fit, _⟩ := fl_parts fl
   have k136 := k136 fl
   have k137 := k137 fl
   have hkey := key52 fl.tell
   have hmp := put52 m fl (boundsE m fl) lp hnd
   have hbo : outV (some (boundsE m fl)) = some (boundsE m fl) := by unfold boundsE; rfl
   have hbo1 := hB0.blt.out
   have HS := J1 g5
   have HG6 := J1 g6
   have HL := J1 hL
   have HB0 := J1 hB0
   have HPRE := J1 hpre
   have HLEN := J1 hlen
   simp only [AV.cells] at fcl
   simp only [isTuple] at fit
   simp only [fkC] at k136 hkey hmp
   refine round_ok' hL rfl ?_
   clear hL hE g5 g6 hB0 hnd hpre hfo hlen
   generalize hbv : boundsE m fl = bv at *
   have HBV := J1 hbv
   clear hbv
   generalize fl.enc = fv at *
   repeat' (first | refine goS ?_ | (refine go2 ?_ ?_ <;> intro hh) | fail)
   rintro ⟨qn, qm⟩ hqn hqg hqL
   have q0 := (hqg hn (by omega)).trans g0
   have q1 := (hqg (hn + 1) (by omega)).trans g1
   have q2 := (hqg (hn + 1 + 1) (by omega)).trans g2
   have hB := HB0.out.other (h' := ⟨qn, qm⟩) (Nat.le_of_eq hqn.symm) fun id hid => hqg id (by omega)
   have hXX : hn + 1 + 1 + 1 + 1 + 1 <= (Heap.mk qn qm).next /\ ∀ id, id < hn + 1 + 1 + 1 + 1 + 1 -> (Heap.mk qn qm).get id = (Heap.mk qn qm).get id := ⟨by rw [hqn]; exact HG6.out, fun _ _ => rfl⟩
   have hll : (fksE lp).length + 1 <= most := by rw [fksE_len]; have := HLEN.out; unfold most; omega
   have HQG := J1 hqg
   have HQL := J1 hqL
   simp only [hp_get] at q0 q1 q2
   clear hqn hqg hqL g0 g1 g2
   repeat' (first | (apply WO1.appendN (t := 88) (u := 88) (e := 52) (e' := 52) (sz := 3) (tl := []) (b := hn + 1 + 1 + 1 + 1 + 1) (h0 := ⟨qn, qm⟩) (hb := hB) (hx := hXX); exact Z1; exact rfl; exact Z2; exact Z2; exact Z2; (focus (exact ty_row88)); exact Z1; (focus (intro v hv; simp at hv; subst hv; rfl)); (focus (simp only [List.length_map, List.length_cons, List.length_nil]; exact hll)); (focus (simp)); (intro v' h' hB' ho' hX'; have hcc' := hB'.blt.cells; have htt' := hB'.blt.tup; simp only [AV.cells] at hcc'; simp only [isTuple] at htt'; simp only [pM, pN])) | refine go1 ?_ | (apply U6; exact Z1; exact Z1; (exact k136 _); simp only [pM, pN, rR, rP]) | (refine go2 ?_ ?_ <;> intro hh) | fail)
   obtain ⟨zn, zm⟩ := h'
   have z0 := (hX'.2 hn (by omega)).trans q0
   have z1 := (hX'.2 (hn + 1) (by omega)).trans q1
   have z2 := (hX'.2 (hn + 1 + 1) (by omega)).trans q2
   have HB1 := J1 hB'
   have HX1 := J1 hX'
   simp only [hp_get] at z0 z1 z2
   clear q0 q1 q2 hB' hX' hXX hB
   repeat' (first | (apply W.drawQ (id := 6) (l1 := [0, 1, 2, 3, 4, 5, 6]) (l2 := [7]); kernel_rfl; kernel_rfl; kernel_rfl; exact Z4) | (apply WO1.mapUp (kt := 52) (et := 133) (es := entE m lp); (focus (exact Tryz.underlying128)); exact Z1; exact Z1; exact Z1; (focus (exact hkey)); (focus exact Z2); (focus (exact hmp)); simp only [pM, pN]) | refine go1 ?_ | (apply U6; exact Z1; exact Z1; (exact k137 _); simp only [pM, pN, rR, rP]) | (refine go2 ?_ ?_ <;> intro hh) | fail)
   have hq4 := (HX1.out.2 (hn + 1 + 1 + 1 + 1) (by omega)).trans HQL.out
   simp only [hp_get] at hq4
   refine round_go (s' := lp ++ [fl]) (by simp only [hp_put, hp_get, Mp.get_set]; rw [if_neg (by omega), if_neg (by omega)]; exact hq4) rfl ⟨v', ?_, ?_, ?_, ?_, ?_⟩
   ·rw [Heap.get_put, if_neg (by omega)]
    simp only [hp_put, hp_get, get_set_same, get_set_lit, b1, b5]
   ·rw [fksE_app]
    refine HB1.out.other (Nat.le_refl _) fun id hid => ?_
    rw [Heap.get_put, if_neg (by omega)]
    simp only [hp_put, hp_get, Mp.get_set]
    rw [if_neg (by omega), if_neg (by omega)]
   ·rw [Heap.get_put, if_neg (by omega)]
    simp only [hp_put, hp_get, get_set_same]
    rw [<- HBV.out]
    simp only [entE, List.map_append, List.map_cons, List.map_nil, fkC]
   ·intro id hid h1 h2
    by_cases h5 : id = hn + 1 + 1 + 1 + 1
    ·subst h5
     rw [Heap.get_put, if_pos rfl, <- HL.out]
     exact HS.out _ hid h1 h2
    ·rw [Heap.get_put, if_neg (fun e => h5 e.symm)]
     simp only [hp_put, hp_get, Mp.get_set]
     rw [if_neg (fun e => h1 e.symm), if_neg (fun e => h2 e.symm)]
     have e1 := HX1.out.2 id hid
     have e2 := HQG.out id h5
     simp only [hp_get] at e1 e2
     rw [e1, e2]
     exact HS.out id hid h1 h2
   ·exact HX1.out.1
  ·simp only [Heap.new, Heap.get, get_set_same, get_set_lit, e1, d2, e5, d6, d1, d5]
  ·simp only [Heap.new, Heap.get, get_set_same, get_set_lit, e1, d2, e5, d6, d1, d5, b1, b2, b3, b5, b6, b7, entE, List.map_nil]
  ·exact Nat.le_refl _
 ·intro r hcl hR
  rw [fold_all, List.nil_append] at hR
  obtain ⟨h', rfl, i1, _⟩ := hR
  obtain ⟨v, g2, hB, g1, g5, g6⟩ := i1 rfl
  have hL := g5 (hn + 1 + 1 + 1 + 1) (by omega) (by omega) (by omega)
  rw [Heap.get_new, if_pos rfl] at hL
  have HG5 := J1 g5
  clear i1 k137 k136 HC h108 g5
  refine W.rangeNorm rfl ?_ hcl hL (fun e => by cases e) ?_
  ·first | exact Z2 | exact Z1
  clear hcl hL
  generalize hput : Heap.put h' _ _ = hz
  have hzn : hz.next = h'.next := by rw [<- hput]; rfl
  have hzg : ∀ id, id ≠ hn + 1 + 1 + 1 + 1 -> hz.get id = h'.get id := fun id hid => by rw [<- hput, Heap.get_put, if_neg (fun e => hid e.symm)]
  have hB2 := hB.other (h' := hz) (Nat.le_of_eq hzn.symm) fun id hid => hzg id (by omega)
  obtain ⟨zn, zm⟩ := hz
  have z1 := (hzg (hn + 1) (by omega)).trans g1
  have z2 := (hzg (hn + 1 + 1) (by omega)).trans g2
  have hbo := hB2.blt.out
  have hcc := hB2.blt.cells
  have htt := hB2.blt.tup
  obtain ⟨h2, hz0, hz2, hz1, hzx, hzy⟩ := hB2.freeze
  have HZG := J1 hzg
  have HZN := J1 hzn
  have HZX := J1 hzx
  have HZY := J1 hzy
  have HG6 := J1 g6
  have hsl := fks_sl (failsH m) (by have := H29.out; unfold maxL; omega)
  have HSL := J1 hsl
  have HZ1 := J1 z1
  simp only [AV.cells] at hcc
  simp only [isTuple] at htt
  simp only [hp_get] at z1 z2
  have hfn : fksE (failP nn m.fans.length m.rooms.length) = fksE (failsH m) := by rw [HFH.out]
  rw [hfn] at hz1 hz2 hz0
  clear hput hzg hzn g1 g2 hB hB2 hzx hzy g6 hsl hfn
  simp only [bN, tN]
  repeat' (first | refine goS ?_ | (refine go2 ?_ ?_ <;> intro hh) | fail)
  all_goals (simp only [resV_def (X := dX c) Tryz.func83, Tryz.results83]; first | exact J5 | refine J6 ?_)
  refine ⟨h2, _, _, failP nn m.fans.length m.rooms.length, rfl, ⟨?_, fun id hid => ?_⟩, HSL.out, ?_, ?_, ?_⟩
  ·have q1 := HZX.out
   have q2 := HZN.out
   have q3 := HG6.out
   simp only at q1 q2 ⊢
   omega
  ·have hid' : id < hn := hid
   rw [HZY.out id (by omega), HZG.out id (by omega), HG5.out id (by omega) (by omega) (by omega), Heap.get_new, if_neg (by simp only; omega)]
   simp only [hp_get, Mp.get_set]
   rw [if_neg (by omega), if_neg (by omega), if_neg (by omega), if_neg (by omega), if_neg (by omega)]
  ·rw [HZY.out (hn + 1) (by omega)]
   exact HZ1.out
  ·intro f hf
   rw [<- HFH.out]; exact hf
  ·have q1 := HZX.out
   have q2 := HZN.out
   have q3 := HG6.out
   simp only at q1 q2 ⊢
   omega
end Go.AM
namespace Go.AM
open Go Go.Proofs
variable [Keep]
attribute [local irreducible] W WO WO1 WD WQ WT thenQ blockQ endR isRet retK Cl ClR
open Go.TX (Rm Fa Ha Hs mapO mapO_len)
attribute [local irreducible] runsB drawnP sumW nowF rowF
theorem sumW_ok : ∀ (l : List Int) (n0 : Int), (∀ x ∈ l, 0 <= x /\ x <= 50) -> 0 <= n0 -> n0 <= 1000000 -> l.length <= 1000 -> 0 <= l.foldl (fun n y => w64 (n + y)) n0 /\ l.foldl (fun n y => w64 (n + y)) n0 <= n0 + 50 * l.length
 | [], n0, _, h0, _, _ => by simp; omega
 | a :: l, n0, h, h0, h1, h2 => by
  have ha := h a (by simp)
  simp only [List.length_cons] at h2
  simp only [List.foldl_cons, List.length_cons]
  have e : w64 (n0 + a) = n0 + a := w64_small (by omega) (by omega)
  rw [e]
  by_cases hs : n0 + a <= 1000000
  ·have := sumW_ok l (n0 + a) (fun x hx => h x (by simp [hx])) (by omega) hs (by omega)
   omega
  ·have key : ∀ (l : List Int) (n0 : Int), (∀ x ∈ l, 0 <= x /\ x <= 50) -> 0 <= n0 -> n0 <= 100000000 - 50 * l.length -> l.length <= 1000 -> 0 <= l.foldl (fun n y => w64 (n + y)) n0 /\ l.foldl (fun n y => w64 (n + y)) n0 <= n0 + 50 * l.length := by
    intro l
    induction l with
    | nil => intro n0 _ h0 _ _; simp; omega
    | cons b l ih =>
     intro n0 h h0 h1 h2
     have hb := h b (by simp)
     simp only [List.length_cons] at h1 h2
     simp only [List.foldl_cons, List.length_cons]
     have e : w64 (n0 + b) = n0 + b := w64_small (by omega) (by omega)
     rw [e]
     have := ih (n0 + b) (fun x hx => h x (by simp [hx])) (by omega) (by omega) (by omega)
     omega
   have := key l (n0 + a) (fun x hx => h x (by simp [hx])) (by omega) (by omega) (by omega)
   omega
theorem drawn_mem {m : Hs} {f : Fl} {r k : Nat} : ∀ {j : Nat} {x : Int}, x ∈ drawnP m f r k j -> ∃ y ∈ m.fans, y.draws = x := by
 intro j
 induction j with
 | zero => intro x h; unfold drawnP at h; cases h
 | succ j ih =>
  intro x h
  unfold drawnP at h
  split at h
  ·rename_i y hy
   split at h
   ·rcases List.mem_append.1 h with h | h
    ·exact ih h
    ·rw [List.mem_singleton] at h
     exact ⟨y, List.mem_of_getElem? hy, h.symm⟩
   ·exact ih h
  ·exact ih h
theorem drawn_ok {m : Hs} (ho : HOk m) (f : Fl) (r k : Nat) : 0 <= sumW (drawnP m f r k m.fans.length) /\ sumW (drawnP m f r k m.fans.length) <= 200 := by
 have h4 := ho.fans
 have hl := drawn_len m f r k m.fans.length
 have := sumW_ok (drawnP m f r k m.fans.length) 0 (fun x hx => by
  obtain ⟨y, hy, rfl⟩ := drawn_mem hx
  have := ho.fan y hy
  omega) (by omega) (by omega) (by omega)
 have e : sumW (drawnP m f r k m.fans.length) = (drawnP m f r k m.fans.length).foldl (fun n y => w64 (n + y)) 0 := by unfold sumW; rfl
 rw [e]
 omega
theorem maxV_is (a b : Int) : maxV a b = max a b := by simp only [maxV]; split <;> omega
theorem stt_ok {m : Hs} (ho : HOk m) (r : Nat) : 0 <= (m.rooms.getD r rm0).stt /\ (m.rooms.getD r rm0).stt <= 50 /\ 0 <= (m.rooms.getD r rm0).lo /\ (m.rooms.getD r rm0).lo <= (m.rooms.getD r rm0).hi /\ (m.rooms.getD r rm0).hi <= 50 := by
 cases hg : m.rooms[r]? with
 | none => simp [List.getD, hg, rm0]
 | some p =>
  have := ho.room p (List.mem_of_getElem? hg)
  simp only [List.getD, hg, Option.getD_some]
  omega
theorem now_ok {m : Hs} (ho : HOk m) (f : Fl) (r : Nat) (md : Nat -> Int) (hmd : ∀ k, 0 <= md k /\ md k <= 50) : ∀ k : Nat, k <= 1000 -> 0 <= nowF m f r md k /\ nowF m f r md k <= 50 + 50 * k := by
 intro k
 induction k with
 | zero =>
  intro _
  rw [now_zero]
  have := stt_ok ho r
  omega
 | succ k ih =>
  intro hk
  have ih := ih (by omega)
  have hm := hmd k
  have hd := drawn_ok ho f r k
  rw [now_next, maxV_is]
  split
  ·rw [w64_small (n := nowF m f r md k + md k) (by omega) (by omega), w64_small (by omega) (by omega)]
   omega
  ·rw [w64_small (by omega) (by omega)]
   omega
theorem row_mem {m : Hs} {f : Fl} {r : Nat} {md : Nat -> Int} {x : Int} : ∀ {n : Nat}, x ∈ rowF m f r md n -> ∃ k, k < n /\ x = nowF m f r md (k + 1) := by
 intro n
 induction n with
 | zero => intro h; rw [row_zero] at h; cases h
 | succ n ih =>
  intro h
  rw [row_next, List.mem_append, List.mem_singleton] at h
  rcases h with h | h
  ·obtain ⟨k, h1, h2⟩ := ih h
   exact ⟨k, by omega, h2⟩
  ·exact ⟨n, by omega, h⟩
structure GOk (g : List (List Int)) (R n : Nat) (B : Int) : Prop where
 len : g.length = R
 row : ∀ r ∈ g, r.length = n
 val : ∀ r ∈ g, ∀ x ∈ r, 0 <= x /\ x <= B
def lowG (m : Hs) (f : Fl) : List (List Int) := lowsP m f m.rooms.length
def highG (m : Hs) (f : Fl) : List (List Int) := highsP m f m.rooms.length
theorem lows_get (m : Hs) (f : Fl) : ∀ {R r : Nat}, r < R -> (lowsP m f R)[r]? = some (rowF m f r (fun _ => (m.rooms.getD r rm0).lo) m.hours.toNat) /\ (highsP m f R)[r]? = some (rowF m f r (fun _ => (m.rooms.getD r rm0).hi) m.hours.toNat) := by
 intro R
 induction R with
 | zero => intro r h; omega
 | succ R ih =>
  intro r h
  obtain ⟨e1, e2⟩ := lows_succ m f R
  obtain ⟨l1, l2⟩ := lows_len m f R
  rw [e1, e2]
  by_cases e : r < R
  ·rw [List.getElem?_append_left (by omega), List.getElem?_append_left (by omega)]
   exact ih e
  ·obtain rfl : r = R := by omega
   rw [List.getElem?_append_right (by omega), List.getElem?_append_right (by omega), l1, l2]
   simp
theorem grid_of {m : Hs} (ho : HOk m) (f : Fl) (g : List (List Int)) (hl : g.length = m.rooms.length) (md : Nat -> Nat -> Int) (hmd : ∀ r k, 0 <= md r k /\ md r k <= 50) (hg : ∀ r, r < m.rooms.length -> g[r]? = some (rowF m f r (md r) m.hours.toNat)) : GOk g m.rooms.length m.hours.toNat 250 := by
 have hh := ho.hours
 have key : ∀ x ∈ g, ∃ r, x = rowF m f r (md r) m.hours.toNat := by
  intro x hx
  obtain ⟨r, hr, rfl⟩ := List.getElem_of_mem hx
  have := hg r (by omega)
  rw [List.getElem?_eq_getElem hr] at this
  exact ⟨r, by simpa using this⟩
 refine ⟨hl, fun x hx => ?_, fun x hx y hy => ?_⟩
 ·obtain ⟨r, rfl⟩ := key x hx
  exact row_len ..
 ·obtain ⟨r, rfl⟩ := key x hx
  obtain ⟨k, h1, rfl⟩ := row_mem hy
  have := now_ok ho f r (md r) (hmd r) (k + 1) (by omega)
  omega
theorem low_ok {m : Hs} (ho : HOk m) (f : Fl) : GOk (lowG m f) m.rooms.length m.hours.toNat 250 :=
 grid_of ho f _ (lows_len m f _).1 (fun r _ => (m.rooms.getD r rm0).lo) (fun r k => by have := stt_ok ho r; omega) fun r hr => (lows_get m f hr).1
theorem high_ok {m : Hs} (ho : HOk m) (f : Fl) : GOk (highG m f) m.rooms.length m.hours.toNat 250 :=
 grid_of ho f _ (lows_len m f _).2 (fun r _ => (m.rooms.getD r rm0).hi) (fun r k => by have := stt_ok ho r; omega) fun r hr => (lows_get m f hr).2
theorem path_is {m : Hs} (ho : HOk m) {p : List Int} (h : pathB m p = true) : p.length = m.hours.toNat /\ ∀ x ∈ p, -1 <= x /\ x < m.rooms.length := by
 have hh := ho.hours
 have hr := ho.rooms
 unfold pathB at h
 simp only [Bool.and_eq_true, beq_iff_eq, List.all_eq_true] at h
 refine ⟨by omega, fun x hx => ?_⟩
 have := inB_iff.1 (h.2 x hx)
 rw [w64_small (by omega) (by omega)] at this
 omega
theorem br_ok {g : List (List Int)} {R n : Nat} {B : Int} (hg : GOk g R n B) {p : List Int} (hp : p.length = n) (hx : ∀ x ∈ p, -1 <= x /\ x < R) (hB : 0 <= B) (hB2 : B <= 1000) : ∀ k : Nat, k <= n -> k <= 1000 -> ∃ s, brG g p k = some s /\ 0 <= s /\ s <= B * k := by
 intro k
 induction k with
 | zero => intro _ _; exact ⟨0, by unfold brG; rfl, by omega, by omega⟩
 | succ k ih =>
  intro hk hk2
  obtain ⟨s, h1, h2, h3⟩ := ih (by omega) (by omega)
  obtain ⟨r, hr⟩ := get_some (l := p) (k := k) (by omega)
  have hrr := hx r (List.mem_of_getElem? hr)
  have hmul : B * (k + 1 : Nat) = B * k + B := by rw [Int.natCast_succ, Int.mul_add, Int.mul_one]
  have hbk : B * k <= 1000 * 1000 := by
   have : B * k <= 1000 * k := Int.mul_le_mul_of_nonneg_right hB2 (by omega)
   omega
  unfold brG
  simp only [h1, hr]
  by_cases e : r = -1
  ·subst e
   exact ⟨s, by simp, h2, by omega⟩
  ·have e' : (r == -1) = false := by simpa using e
   rw [e']
   simp only [Bool.false_eq_true, if_false]
   obtain ⟨row, hrow⟩ := get_some (l := g) (k := r.toNat) (by rw [hg.len]; omega)
   have hrl := hg.row row (List.mem_of_getElem? hrow)
   obtain ⟨x, hx1⟩ := get_some (l := row) (k := k) (by omega)
   have hv := hg.val row (List.mem_of_getElem? hrow) x (List.mem_of_getElem? hx1)
   have hga : gridA g r k = some x := by unfold gridA; rw [if_pos (by omega)]; simp only [hrow, hx1]
   rw [hga]
   refine ⟨w64 (s + x), rfl, ?_⟩
   rw [w64_small (by omega) (by omega)]
   omega
def brV (g : List (List Int)) (p : List Int) : Int := (brG g p p.length).getD 0
theorem brV_is {m : Hs} (ho : HOk m) {p : List Int} (h : pathB m p = true) {g : List (List Int)} (hg : GOk g m.rooms.length m.hours.toNat 250) : brG g p p.length = some (brV g p) /\ 0 <= brV g p /\ brV g p <= 1000 := by
 have hh := ho.hours
 obtain ⟨h1, h2⟩ := path_is ho h
 obtain ⟨s, e1, e2, e3⟩ := br_ok hg h1 h2 (by omega) (by omega) p.length (by omega) (by omega)
 have : brV g p = s := by unfold brV; rw [e1]; rfl
 rw [this]
 refine ⟨e1, e2, ?_⟩
 have : (p.length : Int) <= 4 := by omega
 omega
def lowsV (m : Hs) (p : List Int) : List Int := (failsH m).map fun f => brV (lowG m f) p
def highsV (m : Hs) (p : List Int) : List Int := (failsH m).map fun f => brV (highG m f) p
def minL : List Int -> Int
 | [] => 0
 | x :: r => r.foldl minV x
def maxL' : List Int -> Int
 | [] => 0
 | x :: r => r.foldl maxV x
def airS (m : Hs) (p : List Int) : Int × Int := (minL (lowsV m p), maxL' (highsV m p))
def gsH (m : Hs) : List (List (List Int) × List (List Int)) := (failsH m).map fun f => (lowG m f, highG m f)
theorem most_fold {p : List Int} : ∀ {l : List (List (List Int) × List (List Int))} {out : Int}, (∀ x ∈ l, brG x.2 p p.length = some (brV x.2 p)) -> mostF p out l = some ((l.map fun x => brV x.2 p).foldl maxV out)
 | [], out, _ => by unfold mostF; rfl
 | x :: l, out, h => by
  have h1 := h x (by simp)
  have h2 := most_fold (l := l) (out := maxV out (brV x.2 p)) fun y hy => h y (by simp [hy])
  unfold mostF
  simp only [h1, h2, List.map_cons, List.foldl_cons]
theorem gs_ok {m : Hs} (ho : HOk m) {p : List Int} (h : pathB m p = true) : ∀ x ∈ gsH m, (brG x.1 p p.length = some (brV x.1 p) /\ 0 <= brV x.1 p /\ brV x.1 p <= 1000) /\ (brG x.2 p p.length = some (brV x.2 p) /\ 0 <= brV x.2 p /\ brV x.2 p <= 1000) := by
 intro x hx
 obtain ⟨f, _, rfl⟩ := List.mem_map.1 hx
 exact ⟨brV_is ho h (low_ok ho f), brV_is ho h (high_ok ho f)⟩
theorem air_most {m : Hs} (ho : HOk m) {p : List Int} (h : pathB m p = true) : mostF p 0 (gsH m) = some (airS m p).2 := by
 rw [most_fold fun x hx => (gs_ok ho h x hx).2.1]
 unfold airS highsV gsH
 rw [List.map_map]
 obtain ⟨l, hl⟩ := fails_cons m
 have h0 := (gs_ok ho h (lowG m .no, highG m .no) (by unfold gsH; rw [hl]; simp)).2.2.1
 rw [hl]
 simp only [List.map_cons, List.foldl_cons, maxL', Function.comp]
 have : maxV 0 (brV (highG m .no) p) = brV (highG m .no) p := by rw [maxV_is]; simp only at h0; omega
 rw [this]
 rfl
end Go.AM
