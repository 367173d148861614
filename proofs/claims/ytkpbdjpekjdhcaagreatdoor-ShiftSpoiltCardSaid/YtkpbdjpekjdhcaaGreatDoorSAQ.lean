/-
  A part of the proof: contracts of functions.
-/
import Derived.Test.YtkpbdjpekjdhcaaGreatDoorSAM
import Derived.Test.YtkpbdjpekjdhcaaGreatDoorSAN
import Derived.Test.YtkpbdjpekjdhcaaGreatDoorSAO
import Derived.Test.YtkpbdjpekjdhcaaGreatDoorSAP
import Derived.Test.YtkpbdjpekjdhcaaGreatDoorSAK
set_option maxRecDepth 1000000
set_option linter.unusedSimpArgs false
set_option linter.unusedVariables false
set_option linter.unusedSectionVars false
namespace Go.AM
open Go Go.Proofs
def tq23a : List Part := [q23_0]
theorem MQ23a [Keep] (hT : TabK Tryz.prog) : IntrFn Tryz.prog 23 (partsGo tq23a) := by
  refine part_intr (X := dX cS) (cS_sound hT) ?_
  intro p hp
  simp only [tq23a, List.mem_cons, List.not_mem_nil, or_false] at hp
  subst hp
  · exact ⟨300, rq23_0⟩
def tq45a : List Part := [q45_47]
theorem MQ45a [Keep] (hT : TabK Tryz.prog) : IntrFn Tryz.prog 45 (partsGo tq45a) := by
  refine part_intr (X := dX cS) (cS_sound hT) ?_
  intro p hp
  simp only [tq45a, List.mem_cons, List.not_mem_nil, or_false] at hp
  subst hp
  · exact ⟨300, rq45_47⟩
def tq91a : List Part := [q91_321, q91_464, q91_592, q91_714, q91_836, q91_958, q91_1087, q91_1338, q91_1467]
theorem MQ91a [Keep] (hT : TabK Tryz.prog) : IntrFn Tryz.prog 91 (partsGo tq91a) := by
  refine part_intr (X := dX cS) (cS_sound hT) ?_
  intro p hp
  simp only [tq91a, List.mem_cons, List.not_mem_nil, or_false] at hp
  rcases hp with rfl | rfl | rfl | rfl | rfl | rfl | rfl | rfl | rfl
  · exact ⟨300, rq91_321⟩
  · exact ⟨300, rq91_464⟩
  · exact ⟨300, rq91_592⟩
  · exact ⟨300, rq91_714⟩
  · exact ⟨300, rq91_836⟩
  · exact ⟨300, rq91_958⟩
  · exact ⟨300, rq91_1087⟩
  · exact ⟨300, rq91_1338⟩
  · exact ⟨300, rq91_1467⟩
def tq31a : List Part := [q31_1622]
theorem MQ31a [Keep] (hT : TabK Tryz.prog) : IntrFn Tryz.prog 31 (partsGo tq31a) := by
  refine part_intr (X := dX cS) (cS_sound hT) ?_
  intro p hp
  simp only [tq31a, List.mem_cons, List.not_mem_nil, or_false] at hp
  subst hp
  · exact ⟨300, rq31_1622⟩
def tq36a : List Part := [q36_1726]
theorem MQ36a [Keep] (hT : TabK Tryz.prog) : IntrFn Tryz.prog 36 (partsGo tq36a) := by
  refine part_intr (X := dX cS) (cS_sound hT) ?_
  intro p hp
  simp only [tq36a, List.mem_cons, List.not_mem_nil, or_false] at hp
  subst hp
  · exact ⟨300, rq36_1726⟩
noncomputable def cS1 : FuncId → Option (List AV → Heap → Option (AV × Heap))
  | 23 => some (partsGo tq23a)
  | 45 => some (partsGo tq45a)
  | 91 => some (partsGo tq91a)
  | 31 => some (partsGo tq31a)
  | 36 => some (partsGo tq36a)
  | f => cS f
theorem cS1_sound [Keep] (hT : TabK Tryz.prog) : Sound (dX cS1) := dX_sound (fun f g h => by
  unfold cS1 at h
  split at h
  · cases h; exact MQ23a hT
  · cases h; exact MQ45a hT
  · cases h; exact MQ91a hT
  · cases h; exact MQ31a hT
  · cases h; exact MQ36a hT
  · exact (cS_sound hT).intr f g h)
end Go.AM
set_option maxRecDepth 1000000
set_option linter.unusedSimpArgs false
set_option linter.unusedVariables false
set_option linter.unusedSectionVars false
namespace Go.AM
open Go Go.Proofs
theorem rq91_318 [Keep] : partChk (callF (dX cS1) (ev (dX cS1) 300) 91 q91_318.args (partHp q91_318.next q91_318.hp)) q91_318 = true := by kernel_rfl
end Go.AM
set_option maxRecDepth 1000000
set_option linter.unusedSimpArgs false
set_option linter.unusedVariables false
set_option linter.unusedSectionVars false
namespace Go.AM
open Go Go.Proofs
def tq91b : List Part := [q91_318]
theorem MQ91b [Keep] (hT : TabK Tryz.prog) : IntrFn Tryz.prog 91 (partsGo tq91b) := by
  refine part_intr (X := dX cS1) (cS1_sound hT) ?_
  intro p hp
  simp only [tq91b, List.mem_cons, List.not_mem_nil, or_false] at hp
  subst hp
  · exact ⟨300, rq91_318⟩
noncomputable def cS2 : FuncId → Option (List AV → Heap → Option (AV × Heap))
  | 91 => some (orGo (partsGo tq91b) (partsGo tq91a))
  | f => cS1 f
theorem cS2_sound [Keep] (hT : TabK Tryz.prog) : Sound (dX cS2) := dX_sound (fun f g h => by
  unfold cS2 at h
  split at h
  · cases h; exact or_intr (MQ91b hT) (MQ91a hT)
  · exact (cS1_sound hT).intr f g h)
end Go.AM
set_option maxRecDepth 1000000
set_option linter.unusedSimpArgs false
set_option linter.unusedVariables false
set_option linter.unusedSectionVars false
namespace Go.AM
open Go Go.Proofs
theorem rq27_201 [Keep] : partChk (callF (dX cS2) (ev (dX cS2) 300) 27 q27_201.args (partHp q27_201.next q27_201.hp)) q27_201 = true := by kernel_rfl
end Go.AM
set_option maxRecDepth 1000000
set_option linter.unusedSimpArgs false
set_option linter.unusedVariables false
set_option linter.unusedSectionVars false
namespace Go.AM
open Go Go.Proofs
def tq27c : List Part := [q27_201]
theorem MQ27c [Keep] (hT : TabK Tryz.prog) : IntrFn Tryz.prog 27 (partsGo tq27c) := by
  refine part_intr (X := dX cS2) (cS2_sound hT) ?_
  intro p hp
  simp only [tq27c, List.mem_cons, List.not_mem_nil, or_false] at hp
  subst hp
  · exact ⟨300, rq27_201⟩
noncomputable def cS3 : FuncId → Option (List AV → Heap → Option (AV × Heap))
  | 27 => some (partsGo tq27c)
  | f => cS2 f
theorem cS3_sound [Keep] (hT : TabK Tryz.prog) : Sound (dX cS3) := dX_sound (fun f g h => by
  unfold cS3 at h
  split at h
  · cases h; exact MQ27c hT
  · exact (cS2_sound hT).intr f g h)
end Go.AM
set_option maxRecDepth 1000000
set_option linter.unusedSimpArgs false
set_option linter.unusedVariables false
set_option linter.unusedSectionVars false
namespace Go.AM
open Go Go.Proofs
def sp22 : List AV → Option AV
  | [] => some (.bool true)
  | _ => none
def retTrue : COut → Bool
  | .ret (.bool true) _ none => true
  | _ => false
theorem retTrue_ret {r : COut} (h : retTrue r = true) : ∃ h', r = .ret (.bool true) h' none := by
  unfold retTrue at h
  split at h
  · exact ⟨_, rfl⟩
  · cases h
theorem known_run [Keep] : retTrue (callF (dX cS3) (ev (dX cS3) 300) 22 [] emptyHp) = true := by kernel_rfl
end Go.AM
set_option linter.unusedSimpArgs false
set_option linter.unusedVariables false
set_option linter.unusedSectionVars false
namespace Go.AM
open Go
variable [Keep]
theorem pure_intr1 {X : Ctx} (s : Sound X) {f : FuncId} {spec : List AV → Option AV} (hp : ∀ args v, spec args = some v → v.pur = true) (hr : ∀ args v, spec args = some v → ∃ h' k, callF X (ev X k) f args emptyHp = .ret v h' none) : IntrFn X.P f (pureFn spec) := by
  intro args h v h' hg C w vs r hv
  unfold pureFn at hg
  split at hg
  · rename_i hpur
    split at hg
    · rename_i u hsp
      cases hg
      obtain ⟨h1, n, hcall⟩ := hr args v hsp
      have hok := s.call n f args emptyHp ⟨fun _ => none, C.sig⟩ w vs r.bare (hv.pur (fun _ _ h => h) (purL_mem.1 hpur)) (by rw [hcall]; intro e; cases e)
      refine ⟨hok.1, fun cs => ?_⟩
      have := hok.2 cs
      rw [hcall] at this
      obtain ⟨C', w', fr, u, q1, q2, q3, q4, q5, q6⟩ := this
      have hle : C.le ⟨C.mu, C'.sig⟩ := ⟨fun _ _ h => h, q6.le.sig⟩
      have hsame : ∀ β, β < w.heap.size → w'.heap[β]? = w.heap[β]? := fun β hb => q6.same β hb emptyHp_live id
      have hsig : ∀ x u, x.block < w.heap.size → C'.sig x = some u → C.sig x = some u := fun x u hb e => by
        rcases q6.sig x u hb e with h | h | h
        · exact h
        · exact (emptyHp_live h).elim
        · exact h.elim
      refine ⟨⟨C.mu, C'.sig⟩, w', fr, u, q1, q2, q3, q4.pur (fun _ _ h => h) (hp _ _ hsp), ⟨q5.sig, fun id blk e => ?_, r.inj, fun id blk L x u e1 e2 e3 e4 => ?_, r.fresh, q5.base⟩, ?_⟩
      · obtain ⟨L, k1, k2⟩ := r.blk id blk e
        exact ⟨L, k1, k2.same hle (hsame _ k2.lt)⟩
      · obtain ⟨L', k1, k2⟩ := r.blk id blk e1
        rw [e2] at k1
        cases k1
        have := k2.lt
        exact r.apart id blk L x u e1 e2 (hsig x u (by rw [e4]; exact this) e3) e4
      · exact { le := hle, os := q6.os, tape := q6.tape, output := q6.output, size := q6.size, same := fun β hb _ _ => hsame β hb, live := fun β hb l => .inl (by
                  obtain ⟨id, blk, L, e1, e2, e3⟩ := l
                  exact ⟨id, blk, L, e1, e2, e3⟩)
                own := fun _ _ o => o.elim, sig := fun x u hb e => .inl (hsig x u hb e), next := Nat.le_refl _ }
    · cases hg
  · cases hg
end Go.AM
namespace Go.AM
open Go Go.Proofs
theorem F22 [Keep] (hT : TabK Tryz.prog) : IntrFn Tryz.prog 22 (pureFn sp22) := by
  refine pure_intr1 (X := dX cS3) (cS3_sound hT) ?_ ?_
  · intro args v e
    unfold sp22 at e
    split at e
    · cases e; rfl
    · cases e
  · intro args v e
    unfold sp22 at e
    split at e
    · cases e
      obtain ⟨h', e⟩ := retTrue_ret known_run
      exact ⟨h', 300, e⟩
    · cases e
end Go.AM
