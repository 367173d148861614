/-
  The examples hold.
-/
import Derived.Test.YtlhcjccaimmhgaaGreatDoorRunF
import Derived.Test.YtlhcjccaimmhgaaGreatDoorRunC
import Derived.Test.YtlhcjccaimmhgaaGreatDoorRunD
import Derived.Test.YtlhcjccaimmhgaaGreatDoorRunE
import Derived.Test.YtlhcjccaimmhgaaGreatDoorRunB
set_option maxRecDepth 1000000
set_option linter.unusedSimpArgs false
set_option linter.unusedVariables false
set_option linter.unusedSectionVars false
namespace Go.AM
open Go Go.Proofs
def t34 : List (List AV × AV) := [(a34_0, v34_0)]
theorem M34 [Keep] (hT : TabK Tryz.prog) : IntrFn Tryz.prog 34 (pureFn (memo t34)) := by
  refine memo_intr (X := dX cZ) (cZ_sound hT) rfl ?_
  intro e he
  simp only [t34, List.mem_cons, List.not_mem_nil, or_false] at he
  subst he
  · exact ⟨300, run34_0⟩
def t39 : List (List AV × AV) := [(a39_0, v39_0)]
theorem M39 [Keep] (hT : TabK Tryz.prog) : IntrFn Tryz.prog 39 (pureFn (memo t39)) := by
  refine memo_intr (X := dX cZ) (cZ_sound hT) rfl ?_
  intro e he
  simp only [t39, List.mem_cons, List.not_mem_nil, or_false] at he
  subst he
  · exact ⟨300, run39_0⟩
def t43 : List (List AV × AV) := [(a43_0, v43_0)]
theorem M43 [Keep] (hT : TabK Tryz.prog) : IntrFn Tryz.prog 43 (pureFn (memo t43)) := by
  refine memo_intr (X := dX cZ) (cZ_sound hT) rfl ?_
  intro e he
  simp only [t43, List.mem_cons, List.not_mem_nil, or_false] at he
  subst he
  · exact ⟨300, run43_0⟩
def t46 : List (List AV × AV) := [(a46_0, v46_0)]
theorem M46 [Keep] (hT : TabK Tryz.prog) : IntrFn Tryz.prog 46 (pureFn (memo t46)) := by
  refine memo_intr (X := dX cZ) (cZ_sound hT) rfl ?_
  intro e he
  simp only [t46, List.mem_cons, List.not_mem_nil, or_false] at he
  subst he
  · exact ⟨300, run46_0⟩
def t63 : List (List AV × AV) := [(a63_0, v63_0)]
theorem M63 [Keep] (hT : TabK Tryz.prog) : IntrFn Tryz.prog 63 (pureFn (memo t63)) := by
  refine memo_intr (X := dX cZ) (cZ_sound hT) rfl ?_
  intro e he
  simp only [t63, List.mem_cons, List.not_mem_nil, or_false] at he
  subst he
  · exact ⟨300, run63_0⟩
def t50 : List (List AV × AV) := [(a50_0, v50_0)]
theorem M50 [Keep] (hT : TabK Tryz.prog) : IntrFn Tryz.prog 50 (pureFn (memo t50)) := by
  refine memo_intr (X := dX cZ) (cZ_sound hT) rfl ?_
  intro e he
  simp only [t50, List.mem_cons, List.not_mem_nil, or_false] at he
  subst he
  · exact ⟨300, run50_0⟩
def t55 : List (List AV × AV) := [(a55_0, v55_0)]
theorem M55 [Keep] (hT : TabK Tryz.prog) : IntrFn Tryz.prog 55 (pureFn (memo t55)) := by
  refine memo_intr (X := dX cZ) (cZ_sound hT) rfl ?_
  intro e he
  simp only [t55, List.mem_cons, List.not_mem_nil, or_false] at he
  subst he
  · exact ⟨300, run55_0⟩
def t57 : List (List AV × AV) := [(a57_0, v57_0)]
theorem M57 [Keep] (hT : TabK Tryz.prog) : IntrFn Tryz.prog 57 (pureFn (memo t57)) := by
  refine memo_intr (X := dX cZ) (cZ_sound hT) rfl ?_
  intro e he
  simp only [t57, List.mem_cons, List.not_mem_nil, or_false] at he
  subst he
  · exact ⟨300, run57_0⟩
def t82 : List (List AV × AV) := [(a82_0, v82_0)]
theorem M82 [Keep] (hT : TabK Tryz.prog) : IntrFn Tryz.prog 82 (pureFn (memo t82)) := by
  refine memo_intr (X := dX cZ) (cZ_sound hT) rfl ?_
  intro e he
  simp only [t82, List.mem_cons, List.not_mem_nil, or_false] at he
  subst he
  · exact ⟨300, run82_0⟩
def cY : FuncId → Option (List AV → Heap → Option (AV × Heap))
  | 34 => some (pureFn (memo t34))
  | 39 => some (pureFn (memo t39))
  | 43 => some (pureFn (memo t43))
  | 46 => some (pureFn (memo t46))
  | 63 => some (pureFn (memo t63))
  | 50 => some (pureFn (memo t50))
  | 55 => some (pureFn (memo t55))
  | 57 => some (pureFn (memo t57))
  | 82 => some (pureFn (memo t82))
  | f => cZ f
theorem cY_sound [Keep] (hT : TabK Tryz.prog) : Sound (dX cY) := dX_sound (fun f g h => by
  unfold cY at h
  split at h
  · cases h; exact M34 hT
  · cases h; exact M39 hT
  · cases h; exact M43 hT
  · cases h; exact M46 hT
  · cases h; exact M63 hT
  · cases h; exact M50 hT
  · cases h; exact M55 hT
  · cases h; exact M57 hT
  · cases h; exact M82 hT
  · exact (cZ_sound hT).intr f g h)
end Go.AM
set_option maxRecDepth 1000000
namespace Go.AM
open Go Go.Proofs
theorem known_run [Keep] : isTrue (callF (dX cY) (ev (dX cY) 300) 25 [] emptyHp) = true := by kernel_rfl
theorem F25 [Keep] (hT : TabK Tryz.prog) : IntrFn Tryz.prog 25 (pureFn sp25) := by
  refine pure_intr1 (X := dX cY) (cY_sound hT) ?_ ?_
  · intro args v e
    unfold sp25 at e
    split at e
    · cases e; rfl
    · cases e
  · intro args v e
    unfold sp25 at e
    split at e
    · cases e
      obtain ⟨h', e⟩ := isTrue_ret known_run
      exact ⟨h', 300, e⟩
    · cases e
end Go.AM
