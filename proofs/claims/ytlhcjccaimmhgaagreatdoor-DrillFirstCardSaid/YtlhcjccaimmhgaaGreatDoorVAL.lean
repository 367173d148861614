/-
  A part of the proof: contracts of functions.
-/
import Derived.Test.YtlhcjccaimmhgaaGreatDoorVAK
set_option maxRecDepth 1000000
set_option linter.unusedSimpArgs false
set_option linter.unusedVariables false
set_option linter.unusedSectionVars false
namespace Go.AM
open Go Go.Proofs
def a170_0 : List AV := [.iface 217 (.int .i64 0)]
def v170_0 : AV := .iface 217 (.int .i64 0)
theorem run170_0 [Keep] : retIs (callF (dX cK) (ev (dX cK) 300) 170 a170_0 emptyHp) v170_0 = true := by kernel_rfl
def a170_1 : List AV := [.iface 217 (.int .i64 1)]
def v170_1 : AV := .iface 217 (.int .i64 3)
theorem run170_1 [Keep] : retIs (callF (dX cK) (ev (dX cK) 300) 170 a170_1 emptyHp) v170_1 = true := by kernel_rfl
def a170_2 : List AV := [.iface 217 (.int .i64 2)]
def v170_2 : AV := .iface 217 (.int .i64 2)
theorem run170_2 [Keep] : retIs (callF (dX cK) (ev (dX cK) 300) 170 a170_2 emptyHp) v170_2 = true := by kernel_rfl
def a170_3 : List AV := [.iface 217 (.int .i64 3)]
def v170_3 : AV := .iface 217 (.int .i64 1)
theorem run170_3 [Keep] : retIs (callF (dX cK) (ev (dX cK) 300) 170 a170_3 emptyHp) v170_3 = true := by kernel_rfl
def a170_4 : List AV := [.iface 215 (.int .i64 0)]
def v170_4 : AV := .iface 215 (.int .i64 0)
theorem run170_4 [Keep] : retIs (callF (dX cK) (ev (dX cK) 300) 170 a170_4 emptyHp) v170_4 = true := by kernel_rfl
def a170_5 : List AV := [.iface 215 (.int .i64 1)]
def v170_5 : AV := .iface 215 (.int .i64 1)
theorem run170_5 [Keep] : retIs (callF (dX cK) (ev (dX cK) 300) 170 a170_5 emptyHp) v170_5 = true := by kernel_rfl
def a170_6 : List AV := [.iface 215 (.int .i64 2)]
def v170_6 : AV := .iface 215 (.int .i64 2)
theorem run170_6 [Keep] : retIs (callF (dX cK) (ev (dX cK) 300) 170 a170_6 emptyHp) v170_6 = true := by kernel_rfl
def a170_7 : List AV := [.iface 215 (.int .i64 3)]
def v170_7 : AV := .iface 215 (.int .i64 3)
theorem run170_7 [Keep] : retIs (callF (dX cK) (ev (dX cK) 300) 170 a170_7 emptyHp) v170_7 = true := by kernel_rfl
def t170 : List (List AV × AV) := [(a170_0, v170_0), (a170_1, v170_1), (a170_2, v170_2), (a170_3, v170_3), (a170_4, v170_4), (a170_5, v170_5), (a170_6, v170_6), (a170_7, v170_7)]
theorem M170 [Keep] (hT : TabK Tryz.prog) : IntrFn Tryz.prog 170 (pureFn (memo t170)) := by
 refine memo_intr (X := dX cK) (cK_sound hT) rfl ?_
 intro e he
 simp only [t170, List.mem_cons, List.not_mem_nil, or_false] at he
 rcases he with rfl | rfl | rfl | rfl | rfl | rfl | rfl | rfl
 ·exact ⟨300, run170_0⟩
 ·exact ⟨300, run170_1⟩
 ·exact ⟨300, run170_2⟩
 ·exact ⟨300, run170_3⟩
 ·exact ⟨300, run170_4⟩
 ·exact ⟨300, run170_5⟩
 ·exact ⟨300, run170_6⟩
 ·exact ⟨300, run170_7⟩
def a171_0 : List AV := [.int .i64 (-4), .agg [.int .i64 (-5), .int .i64 (-5)]]
def v171_0 : AV := .tuple [.int .i64 (-5), .bool true]
theorem run171_0 [Keep] : retIs (callF (dX cK) (ev (dX cK) 300) 171 a171_0 emptyHp) v171_0 = true := by kernel_rfl
def a171_1 : List AV := [.int .i64 0, .agg [.int .i64 (-2), .int .i64 2]]
def v171_1 : AV := .tuple [.int .i64 0, .bool true]
theorem run171_1 [Keep] : retIs (callF (dX cK) (ev (dX cK) 300) 171 a171_1 emptyHp) v171_1 = true := by kernel_rfl
def a171_2 : List AV := [.int .i64 4, .agg [.int .i64 3, .int .i64 3]]
def v171_2 : AV := .tuple [.int .i64 3, .bool true]
theorem run171_2 [Keep] : retIs (callF (dX cK) (ev (dX cK) 300) 171 a171_2 emptyHp) v171_2 = true := by kernel_rfl
def a171_3 : List AV := [.int .i64 4, .agg [.int .i64 (-5), .int .i64 (-5)]]
def v171_3 : AV := .tuple [.int .i64 (-5), .bool true]
theorem run171_3 [Keep] : retIs (callF (dX cK) (ev (dX cK) 300) 171 a171_3 emptyHp) v171_3 = true := by kernel_rfl
def a171_4 : List AV := [.int .i64 (-4), .agg [.int .i64 3, .int .i64 3]]
def v171_4 : AV := .tuple [.int .i64 3, .bool true]
theorem run171_4 [Keep] : retIs (callF (dX cK) (ev (dX cK) 300) 171 a171_4 emptyHp) v171_4 = true := by kernel_rfl
def a171_5 : List AV := [.int .i64 (-4), .agg [.int .i64 (-1), .int .i64 (-1)]]
def v171_5 : AV := .tuple [.int .i64 (-1), .bool true]
theorem run171_5 [Keep] : retIs (callF (dX cK) (ev (dX cK) 300) 171 a171_5 emptyHp) v171_5 = true := by kernel_rfl
def a171_6 : List AV := [.int .i64 0, .agg [.int .i64 2, .int .i64 6]]
def v171_6 : AV := .tuple [.int .i64 2, .bool true]
theorem run171_6 [Keep] : retIs (callF (dX cK) (ev (dX cK) 300) 171 a171_6 emptyHp) v171_6 = true := by kernel_rfl
def a171_7 : List AV := [.int .i64 4, .agg [.int .i64 (-1), .int .i64 (-1)]]
def v171_7 : AV := .tuple [.int .i64 (-1), .bool true]
theorem run171_7 [Keep] : retIs (callF (dX cK) (ev (dX cK) 300) 171 a171_7 emptyHp) v171_7 = true := by kernel_rfl
def a171_8 : List AV := [.int .i64 0, .agg [.int .i64 (-6), .int .i64 (-2)]]
def v171_8 : AV := .tuple [.int .i64 (-2), .bool true]
theorem run171_8 [Keep] : retIs (callF (dX cK) (ev (dX cK) 300) 171 a171_8 emptyHp) v171_8 = true := by kernel_rfl
def t171 : List (List AV × AV) := [(a171_0, v171_0), (a171_1, v171_1), (a171_2, v171_2), (a171_3, v171_3), (a171_4, v171_4), (a171_5, v171_5), (a171_6, v171_6), (a171_7, v171_7), (a171_8, v171_8)]
theorem M171 [Keep] (hT : TabK Tryz.prog) : IntrFn Tryz.prog 171 (pureFn (memo t171)) := by
 refine memo_intr (X := dX cK) (cK_sound hT) rfl ?_
 intro e he
 simp only [t171, List.mem_cons, List.not_mem_nil, or_false] at he
 rcases he with rfl | rfl | rfl | rfl | rfl | rfl | rfl | rfl | rfl
 ·exact ⟨300, run171_0⟩
 ·exact ⟨300, run171_1⟩
 ·exact ⟨300, run171_2⟩
 ·exact ⟨300, run171_3⟩
 ·exact ⟨300, run171_4⟩
 ·exact ⟨300, run171_5⟩
 ·exact ⟨300, run171_6⟩
 ·exact ⟨300, run171_7⟩
 ·exact ⟨300, run171_8⟩
def a100_0 : List AV := [.agg [.vslice [.agg [.int .i64 (-4), .int .i64 0], .agg [.int .i64 4, .int .i64 0]], .int .i64 2], .vslice [.agg [.int .i64 5, .int .i64 1], .agg [.int .i64 (-3), .int .i64 1]]]
def v100_0 : AV := .tuple [.int .i64 0, .vslice [.int .i64 1, .int .i64 0], .bool true]
theorem run100_0 [Keep] : retIs (callF (dX cK) (ev (dX cK) 300) 100 a100_0 emptyHp) v100_0 = true := by kernel_rfl
def a100_1 : List AV := [.agg [.vslice [.agg [.int .i64 (-4), .int .i64 0], .agg [.int .i64 4, .int .i64 0]], .int .i64 2], .vslice [.agg [.int .i64 (-5), .int .i64 0], .agg [.int .i64 3, .int .i64 0]]]
def v100_1 : AV := .tuple [.int .i64 0, .vslice [.int .i64 0, .int .i64 1], .bool true]
theorem run100_1 [Keep] : retIs (callF (dX cK) (ev (dX cK) 300) 100 a100_1 emptyHp) v100_1 = true := by kernel_rfl
def a100_2 : List AV := [.agg [.vslice [.agg [.int .i64 (-4), .int .i64 0], .agg [.int .i64 4, .int .i64 0]], .int .i64 2], .vslice [.agg [.int .i64 (-4), .int .i64 0], .agg [.int .i64 4, .int .i64 0]]]
def v100_2 : AV := .tuple [.int .i64 0, .vslice [.int .i64 0, .int .i64 1], .bool true]
theorem run100_2 [Keep] : retIs (callF (dX cK) (ev (dX cK) 300) 100 a100_2 emptyHp) v100_2 = true := by kernel_rfl
def a100_3 : List AV := [.agg [.vslice [.agg [.int .i64 (-4), .int .i64 0], .agg [.int .i64 4, .int .i64 0]], .int .i64 2], .vslice [.agg [.int .i64 (-3), .int .i64 0], .agg [.int .i64 5, .int .i64 0]]]
def v100_3 : AV := .tuple [.int .i64 0, .vslice [.int .i64 0, .int .i64 1], .bool true]
theorem run100_3 [Keep] : retIs (callF (dX cK) (ev (dX cK) 300) 100 a100_3 emptyHp) v100_3 = true := by kernel_rfl
def a100_4 : List AV := [.agg [.vslice [.agg [.int .i64 (-4), .int .i64 0], .agg [.int .i64 4, .int .i64 0]], .int .i64 2], .vslice [.agg [.int .i64 (-2), .int .i64 0], .agg [.int .i64 6, .int .i64 0]]]
def v100_4 : AV := .tuple [.int .i64 0, .vslice [.int .i64 0, .int .i64 1], .bool true]
theorem run100_4 [Keep] : retIs (callF (dX cK) (ev (dX cK) 300) 100 a100_4 emptyHp) v100_4 = true := by kernel_rfl
def a100_5 : List AV := [.agg [.vslice [.agg [.int .i64 (-4), .int .i64 0], .agg [.int .i64 4, .int .i64 0]], .int .i64 2], .vslice [.agg [.int .i64 (-1), .int .i64 0], .agg [.int .i64 7, .int .i64 0]]]
def v100_5 : AV := .tuple [.int .i64 0, .nilslice, .bool false]
theorem run100_5 [Keep] : retIs (callF (dX cK) (ev (dX cK) 300) 100 a100_5 emptyHp) v100_5 = true := by kernel_rfl
def t100 : List (List AV × AV) := [(a100_0, v100_0), (a100_1, v100_1), (a100_2, v100_2), (a100_3, v100_3), (a100_4, v100_4), (a100_5, v100_5)]
theorem M100 [Keep] (hT : TabK Tryz.prog) : IntrFn Tryz.prog 100 (pureFn (memo t100)) := by
 refine memo_intr (X := dX cK) (cK_sound hT) rfl ?_
 intro e he
 simp only [t100, List.mem_cons, List.not_mem_nil, or_false] at he
 rcases he with rfl | rfl | rfl | rfl | rfl | rfl
 ·exact ⟨300, run100_0⟩
 ·exact ⟨300, run100_1⟩
 ·exact ⟨300, run100_2⟩
 ·exact ⟨300, run100_3⟩
 ·exact ⟨300, run100_4⟩
 ·exact ⟨300, run100_5⟩
def cZ : Itr
 | 170 => some (pureFn (memo t170))
 | 171 => some (pureFn (memo t171))
 | 100 => some (pureFn (memo t100))
 | f => cK f
theorem cZ_sound [Keep] (hT : TabK Tryz.prog) : Sound (dX cZ) := dX_sound (fun f g h => by
 unfold cZ at h
 split at h
 ·cases h; exact M170 hT
 ·cases h; exact M171 hT
 ·cases h; exact M100 hT
 ·exact (cK_sound hT).intr f g h)
end Go.AM
