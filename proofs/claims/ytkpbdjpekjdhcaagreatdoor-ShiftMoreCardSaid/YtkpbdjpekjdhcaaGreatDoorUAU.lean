/-
  A part of the proof: contracts of functions.
-/
import Derived.Test.YtkpbdjpekjdhcaaGreatDoorUAQ
import Derived.Test.YtkpbdjpekjdhcaaGreatDoorUAR
import Derived.Test.YtkpbdjpekjdhcaaGreatDoorUAS
import Derived.Test.YtkpbdjpekjdhcaaGreatDoorUAT
import Derived.Test.YtkpbdjpekjdhcaaGreatDoorUAO
import Derived.Test.YtkpbdjpekjdhcaaGreatDoorUAM
set_option maxRecDepth 1000000
set_option linter.unusedSimpArgs false
set_option linter.unusedVariables false
set_option linter.unusedSectionVars false
namespace Go.AM
open Go Go.Proofs
def tq23a : List Part := [q23_0]
theorem MQ23a [Keep] (hT : TabK Tryz.prog) : IntrFn Tryz.prog 23 (partsGo tq23a) := by
 refine part_intr (X := dX cS) (cS_sound hT) ?_
 intro p hp
 simp only [tq23a, List.mem_cons, List.not_mem_nil, or_false] at hp
 subst hp
 ·exact ⟨300, rq23_0⟩
def tq45a : List Part := [q45_47]
theorem MQ45a [Keep] (hT : TabK Tryz.prog) : IntrFn Tryz.prog 45 (partsGo tq45a) := by
 refine part_intr (X := dX cS) (cS_sound hT) ?_
 intro p hp
 simp only [tq45a, List.mem_cons, List.not_mem_nil, or_false] at hp
 subst hp
 ·exact ⟨300, rq45_47⟩
def tq46a : List Part := [q46_124]
theorem MQ46a [Keep] (hT : TabK Tryz.prog) : IntrFn Tryz.prog 46 (partsGo tq46a) := by
 refine part_intr (X := dX cS) (cS_sound hT) ?_
 intro p hp
 simp only [tq46a, List.mem_cons, List.not_mem_nil, or_false] at hp
 subst hp
 ·exact ⟨300, rq46_124⟩
def tq91a : List Part := [q91_321, q91_464, q91_592, q91_714, q91_836, q91_958, q91_1087, q91_1338, q91_1467]
theorem MQ91a [Keep] (hT : TabK Tryz.prog) : IntrFn Tryz.prog 91 (partsGo tq91a) := by
 refine part_intr (X := dX cS) (cS_sound hT) ?_
 intro p hp
 simp only [tq91a, List.mem_cons, List.not_mem_nil, or_false] at hp
 rcases hp with rfl | rfl | rfl | rfl | rfl | rfl | rfl | rfl | rfl
 ·exact ⟨300, rq91_321⟩
 ·exact ⟨300, rq91_464⟩
 ·exact ⟨300, rq91_592⟩
 ·exact ⟨300, rq91_714⟩
 ·exact ⟨300, rq91_836⟩
 ·exact ⟨300, rq91_958⟩
 ·exact ⟨300, rq91_1087⟩
 ·exact ⟨300, rq91_1338⟩
 ·exact ⟨300, rq91_1467⟩
def tq31a : List Part := [q31_1622]
theorem MQ31a [Keep] (hT : TabK Tryz.prog) : IntrFn Tryz.prog 31 (partsGo tq31a) := by
 refine part_intr (X := dX cS) (cS_sound hT) ?_
 intro p hp
 simp only [tq31a, List.mem_cons, List.not_mem_nil, or_false] at hp
 subst hp
 ·exact ⟨300, rq31_1622⟩
noncomputable def cS1 : Itr
 | 23 => some (partsGo tq23a)
 | 45 => some (partsGo tq45a)
 | 46 => some (partsGo tq46a)
 | 91 => some (partsGo tq91a)
 | 31 => some (partsGo tq31a)
 | f => cS f
theorem cS1_sound [Keep] (hT : TabK Tryz.prog) : Sound (dX cS1) := dX_sound (fun f g h => by
 unfold cS1 at h
 split at h
 ·cases h; exact MQ23a hT
 ·cases h; exact MQ45a hT
 ·cases h; exact MQ46a hT
 ·cases h; exact MQ91a hT
 ·cases h; exact MQ31a hT
 ·exact (cS_sound hT).intr f g h)
end Go.AM
namespace Go.AM
open Go Go.Proofs
theorem rq91_318 [Keep] : partChk (callF (dX cS1) (ev (dX cS1) 300) 91 q91_318.args (partHp q91_318.next q91_318.hp)) q91_318 = true := by kernel_rfl
end Go.AM
namespace Go.AM
open Go Go.Proofs
def tq91b : List Part := [q91_318]
theorem MQ91b [Keep] (hT : TabK Tryz.prog) : IntrFn Tryz.prog 91 (partsGo tq91b) := by
 refine part_intr (X := dX cS1) (cS1_sound hT) ?_
 intro p hp
 simp only [tq91b, List.mem_cons, List.not_mem_nil, or_false] at hp
 subst hp
 ·exact ⟨300, rq91_318⟩
noncomputable def cS2 : Itr
 | 91 => some (orGo (partsGo tq91b) (partsGo tq91a))
 | f => cS1 f
theorem cS2_sound [Keep] (hT : TabK Tryz.prog) : Sound (dX cS2) := dX_sound (fun f g h => by
 unfold cS2 at h
 split at h
 ·cases h; exact or_intr (MQ91b hT) (MQ91a hT)
 ·exact (cS1_sound hT).intr f g h)
end Go.AM
namespace Go.AM
open Go Go.Proofs
theorem rq27_201 [Keep] : partChk (callF (dX cS2) (ev (dX cS2) 300) 27 q27_201.args (partHp q27_201.next q27_201.hp)) q27_201 = true := by kernel_rfl
end Go.AM
namespace Go.AM
open Go Go.Proofs
def tq27c : List Part := [q27_201]
theorem MQ27c [Keep] (hT : TabK Tryz.prog) : IntrFn Tryz.prog 27 (partsGo tq27c) := by
 refine part_intr (X := dX cS2) (cS2_sound hT) ?_
 intro p hp
 simp only [tq27c, List.mem_cons, List.not_mem_nil, or_false] at hp
 subst hp
 ·exact ⟨300, rq27_201⟩
noncomputable def cS3 : Itr
 | 27 => some (partsGo tq27c)
 | f => cS2 f
theorem cS3_sound [Keep] (hT : TabK Tryz.prog) : Sound (dX cS3) := dX_sound (fun f g h => by
 unfold cS3 at h
 split at h
 ·cases h; exact MQ27c hT
 ·exact (cS2_sound hT).intr f g h)
end Go.AM
namespace Go.AM
open Go Go.Proofs
def sp22 : List AV → Option AV
 | [] => some (.bool true)
 | _ => none
def retTrue : COut → Bool
 | .ret (.bool true) _ none => true
 | _ => false
theorem retTrue_ret {r : COut} (h : retTrue r = true) : ∃ h', r = .ret (.bool true) h' none := by
 unfold retTrue at h
 split at h
 ·exact ⟨_, rfl⟩
 ·cases h
theorem known_run [Keep] : retTrue (callF (dX cS3) (ev (dX cS3) 300) 22 [] emptyHp) = true := by kernel_rfl
end Go.AM
namespace Go.AM
open Go
variable [Keep]
theorem pure_intr1 {X : Ctx} (s : Sound X) {f : FuncId} {spec : List AV → Option AV} (hp : ∀ args v, spec args = some v → v.pur = true) (hr : ∀ args v, spec args = some v → ∃ h' k, callF X (ev X k) f args emptyHp = .ret v h' none) : IntrFn X.P f (pureFn spec) := by
  intro args h v h' hg C w vs r hv
  unfold pureFn at hg
  split at hg
  · rename_i hpur
    split at hg
    · rename_i u hsp
      cases hg
      obtain ⟨h1, n, hcall⟩ := hr args v hsp
      have hok := s.call n f args emptyHp ⟨fun _ => none, C.sig⟩ w vs r.bare (hv.pur (fun _ _ h => h) (purL_mem.1 hpur)) (by rw [hcall]; intro e; cases e)
      refine ⟨hok.1, fun cs => ?_⟩
      have := hok.2 cs
      rw [hcall] at this
      obtain ⟨C', w', fr, u, q1, q2, q3, q4, q5, q6⟩ := this
      have hle : C.le ⟨C.mu, C'.sig⟩ := ⟨fun _ _ h => h, q6.le.sig⟩
      have hsame : ∀ β, β < w.heap.size → w'.heap[β]? = w.heap[β]? := fun β hb => q6.same β hb emptyHp_live id
      have hsig : ∀ x u, x.block < w.heap.size → C'.sig x = some u → C.sig x = some u := fun x u hb e => by
        rcases q6.sig x u hb e with h | h | h
        · exact h
        · exact (emptyHp_live h).elim
        · exact h.elim
      refine ⟨⟨C.mu, C'.sig⟩, w', fr, u, q1, q2, q3, q4.pur (fun _ _ h => h) (hp _ _ hsp), ⟨q5.sig, fun id blk e => ?_, r.inj, fun id blk L x u e1 e2 e3 e4 => ?_, r.fresh, q5.base⟩, ?_⟩
      · obtain ⟨L, k1, k2⟩ := r.blk id blk e
        exact ⟨L, k1, k2.same hle (hsame _ k2.lt)⟩
      · obtain ⟨L', k1, k2⟩ := r.blk id blk e1
        rw [e2] at k1
        cases k1
        have := k2.lt
        exact r.apart id blk L x u e1 e2 (hsig x u (by rw [e4]; exact this) e3) e4
      · exact { le := hle, os := q6.os, tape := q6.tape, output := q6.output, size := q6.size, same := fun β hb _ _ => hsame β hb, live := fun β hb l => .inl (by
                  obtain ⟨id, blk, L, e1, e2, e3⟩ := l
                  exact ⟨id, blk, L, e1, e2, e3⟩)
                own := fun _ _ o => o.elim, sig := fun x u hb e => .inl (hsig x u hb e), next := Nat.le_refl _ }
    · cases hg
  · cases hg
end Go.AM
namespace Go.AM
open Go Go.Proofs
theorem F22 [Keep] (hT : TabK Tryz.prog) : IntrFn Tryz.prog 22 (pureFn sp22) := by
 refine pure_intr1 (X := dX cS3) (cS3_sound hT) ?_ ?_
 ·intro args v e
  unfold sp22 at e
  split at e
  ·cases e; rfl
  ·cases e
 ·intro args v e
  unfold sp22 at e
  split at e
  ·cases e
   obtain ⟨h', e⟩ := retTrue_ret known_run
   exact ⟨h', 300, e⟩
  ·cases e
end Go.AM
set_option maxRecDepth 100000
namespace Go.AM
open Go Go.Proofs
variable [Keep]
attribute [local irreducible] W WO WO1 WD WQ WT thenQ blockQ endR isRet retK Cl ClR
open Go.TX (Rm Fa Ha Hs)
def slLen : AV → Option Nat
 | .nilslice => some 0
 | .vempty => some 0
 | .vslice l => some l.length
 | _ => none
theorem slLen_is {a : AV} {n : Nat} (h : slLen a = some n) : lenS a = some n ∧ outV (some a) = some a ∧ isTuple a = false := by
 unfold slLen at h
 split at h <;> cases h <;> exact ⟨rfl, rfl, rfl⟩
theorem slLen_mk {a : AV} {es : List AV} (h : isSl a es) : slLen a = some es.length := by rcases h with ⟨rfl | rfl, rfl⟩ | rfl <;> rfl
def sp21S : List AV → Option AV
 | [.agg [.int .i64 _, ra, fa, oa, ha]] => match slLen ra, slLen fa, slLen oa, slLen ha with
  | some a, some b, some c, some d => some (.bool (decide ((a : Int) ≤ 5) && decide ((b : Int) ≤ 7) && decide ((c : Int) ≤ 6) && decide ((d : Int) ≤ 6)))
  | _, _, _, _ => none
 | _ => none
theorem F21S : IntrFn Tryz.prog 21 (pureFn sp21S) := by
 refine pure_fn (X := dX i0) i0_sound ?_ ?_
 ·intro args v h
  unfold sp21S at h
  split at h
  ·split at h
   ·cases h; rfl
   ·cases h
  ·cases h
 intro args v h
 unfold sp21S at h
 split at h
 ·rename_i n ra fa oa ha
  split at h
  ·rename_i a b c d v1 v2 v3 v4
   have h := Option.some.inj h
   obtain ⟨l1, o1, _⟩ := slLen_is v1
   obtain ⟨l2, o2, _⟩ := slLen_is v2
   obtain ⟨l3, o3, _⟩ := slLen_is v3
   obtain ⟨l4, o4, _⟩ := slLen_is v4
   subst h
   obtain ⟨r, hr⟩ : ∃ r, r = (decide ((a : Int) ≤ 5) && decide ((b : Int) ≤ 7) && decide ((c : Int) ≤ 6) && decide ((d : Int) ≤ 6)) := ⟨_, rfl⟩
   rw [← hr]
   have hS := Lib.hid hr
   clear v1 v2 v3 v4 hr
   refine ClR.walk (c := _) rfl Tryz.func21 rfl (by kernel_rfl) rfl isRet_fail ?_
   simp only [entryEnv, Nat.reduceAdd, emptyHp]
   repeat' (first | refine goS ?_ | refine go2 (fun hh => ?_) (fun hh => ?_) | fail)
   all_goals (simp only [resV_def (X := dX i0) Tryz.func21, Tryz.results21]; first | exact J5 | refine J6 ?_)
   all_goals (rw [hS.out]; clear hS; first | (simp_all; done) | (simp_all; intros; omega))
  ·cases h
 ·cases h
theorem K22 {X : Ctx} (hX : X.intr 22 = some (pureFn sp22)) (h : Heap) : Cl X 22 [] h (.ret (.bool true) h none) := Cl.intr hX (by simp [pureFn, AV.purL, sp22])
structure HsI (m : Hs) (ra fa oa ha : AV) : Prop where
 r : isSl ra (m.rooms.map rmC.enc)
 f : isSl fa (m.fans.map faC.enc)
 o : isSl oa (m.op.map intC.enc)
 h : isSl ha (m.hands.map haC.enc)
theorem K21I {X : Ctx} (hX : X.intr 21 = some (pureFn sp21S)) {m : Hs} {ra fa oa ha : AV} (v : HsI m ra fa oa ha) (h : Heap) : Cl X 21 [.agg [.int .i64 m.hours, ra, fa, oa, ha]] h (.ret (.bool (shortB m)) h none) := by
 have h1 := slLen_mk v.r
 have h2 := slLen_mk v.f
 have h3 := slLen_mk v.o
 have h4 := slLen_mk v.h
 rw [List.length_map] at h1 h2 h3 h4
 have p1 := v.r.pur (enc_pur rmC _)
 have p2 := v.f.pur (enc_pur faC _)
 have p3 := v.o.pur (enc_pur intC _)
 have p4 := v.h.pur (enc_pur haC _)
 exact Cl.intr hX (by simp [pureFn, AV.pur, AV.purL, p1, p2, p3, p4, sp21S, h1, h2, h3, h4, shortB])
theorem HsI.short {m : Hs} {ra fa oa ha : AV} (v : HsI m ra fa oa ha) (g : shortB m = true) : HsA m ra fa oa ha := by
 unfold shortB at g
 simp only [Bool.and_eq_true, decide_eq_true_eq] at g
 obtain ⟨⟨⟨g1, g2⟩, g3⟩, g4⟩ := g
 exact ⟨slV_mk v.r (by unfold maxL; omega), slV_mk v.f (by unfold maxL; omega), slV_mk v.o (by unfold maxL; omega), slV_mk v.h (by unfold maxL; omega)⟩
theorem K24p {X : Ctx} (hX : X.intr 24 = some (flatFnD sp82)) {ra fa oa ha : AV} {m : Hs} (hm : HsA m ra fa oa ha) (h : Heap) :
  Cl X 24 [.agg [.int .i64 m.hours, ra, fa, oa, ha]] h (.ret (.bool (houseB m)) h none) := K24 hX (SeeV.of hm.r h) (SeeV.of hm.f h) (SeeV.of hm.o h) (SeeV.of hm.h h)
end Go.AM
