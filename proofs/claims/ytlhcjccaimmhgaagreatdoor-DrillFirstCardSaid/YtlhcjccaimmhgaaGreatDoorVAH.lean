/-
  A part of the proof: contracts of functions.
-/
import Derived.Test.YtlhcjccaimmhgaaGreatDoorVAG
import Derived.KernelRfl
set_option linter.unusedSimpArgs false
set_option linter.unusedVariables false
set_option linter.unusedSectionVars false
namespace Go.AM
open Go
theorem go1 {P Q : Prop} (q : Q) (k : Q -> P := by (intro hq; (first | (refine ⟨⟨trivial, trivial⟩, ?_⟩) | (refine ⟨⟨rfl, rfl⟩, ?_⟩) | (refine Z5 rfl rfl ?_) | (refine Z8 rfl rfl ?_) | (refine Z6 ?_) | (refine Z9 ?_; simp only [tN, bN, eN, true_and]) | (apply Z7; exact rfl; exact rfl; exact Z1; simp only [pM, pN]) | refine Y1 ?_ | refine U7 ?_ | refine U8 ?_ | refine U9 ?_ | refine Y2 ?_ | (refine Y3 ?_; simp only [tN, bN, eN, true_and]) | (apply U4; exact Z1; exact rfl; simp only [pM, pN, rR, rP]) | (refine WO1.gyes (b := true) rfl rfl ?_ rfl ?_; exact Z2) | (refine WO1.gno (b := true) rfl rfl ?_ rfl ?_; exact Z2; simp only [pM, pN, rR, rP]) | (refine WO1.gyes (b := false) rfl rfl ?_ rfl ?_; exact Z2) | (refine WO1.gno (b := false) rfl rfl ?_ rfl ?_; exact Z2; simp only [pM, pN, rR, rP]) | (apply U5; exact rfl; exact Z3; simp only [pM, pN, rR, rP]) | (simp only [tP, bP, eP, true_and]) | (refine Y7 ?_; simp only [tR, bR, eR, true_and]) | (refine Y8 ?_; simp only [tN, bN, eN, true_and]) | (refine Y9 ?_; simp only [tX, bS, bO, Nat.reduceBEq, tN, bN]) | (refine Y4 ?_ ?_; exact Z2) | (refine Y5 ?_ ?_; exact Z2) | fail); exact hq)) : P := k q
theorem goS {P Q : Prop} (q : Q) (k : Q -> P := by (intro hq; (first | (refine ⟨⟨trivial, trivial⟩, ?_⟩) | (refine ⟨⟨rfl, rfl⟩, ?_⟩) | (refine Z5 rfl rfl ?_) | (refine Z8 rfl rfl ?_) | (refine Z6 ?_) | (refine Z9 ?_; simp only [tN, bN, eN, true_and]) | (apply Z7; exact rfl; exact rfl; exact Z1; simp only [pM, pN]) | refine Y1 ?_ | refine U7 ?_ | refine U8 ?_ | refine U9 ?_ | refine Y2 ?_ | (refine Y3 ?_; simp only [tN, bN, eN, true_and]) | (apply U4; exact Z1; exact rfl; simp only [pM, pN, rR, rP]) | (refine WO1.gyes (b := true) rfl rfl ?_ rfl ?_; exact Z2) | (refine WO1.gno (b := true) rfl rfl ?_ rfl ?_; exact Z2; simp only [pM, pN, rR, rP]) | (refine WO1.gyes (b := false) rfl rfl ?_ rfl ?_; exact Z2) | (refine WO1.gno (b := false) rfl rfl ?_ rfl ?_; exact Z2; simp only [pM, pN, rR, rP]) | (apply U5; exact rfl; exact Z3; simp only [pM, pN, rR, rP]) | (simp only [tP, bP, eP, true_and]) | (refine Y7 ?_; simp only [tR, bR, eR, true_and]) | (refine Y8 ?_; simp only [tN, bN, eN, true_and]) | (refine Y9 ?_; simp only [tX, bS, bO, Nat.reduceBEq, tN, bN]) | (refine Y4 ?_ ?_; exact Z2) | (refine Y5 ?_ ?_; exact Z2) | fail); (repeat (first | (refine ⟨⟨trivial, trivial⟩, ?_⟩) | (refine ⟨⟨rfl, rfl⟩, ?_⟩) | (refine Z5 rfl rfl ?_) | (refine Z8 rfl rfl ?_) | (refine Z6 ?_) | (refine Z9 ?_; simp only [tN, bN, eN, true_and]) | (apply Z7; exact rfl; exact rfl; exact Z1; simp only [pM, pN]) | refine Y1 ?_ | refine U7 ?_ | refine U8 ?_ | refine U9 ?_ | refine Y2 ?_ | (refine Y3 ?_; simp only [tN, bN, eN, true_and]) | (apply U4; exact Z1; exact rfl; simp only [pM, pN, rR, rP]) | (refine WO1.gyes (b := true) rfl rfl ?_ rfl ?_; exact Z2) | (refine WO1.gno (b := true) rfl rfl ?_ rfl ?_; exact Z2; simp only [pM, pN, rR, rP]) | (refine WO1.gyes (b := false) rfl rfl ?_ rfl ?_; exact Z2) | (refine WO1.gno (b := false) rfl rfl ?_ rfl ?_; exact Z2; simp only [pM, pN, rR, rP]) | (apply U5; exact rfl; exact Z3; simp only [pM, pN, rR, rP]) | (simp only [tP, bP, eP, true_and]) | (refine Y7 ?_; simp only [tR, bR, eR, true_and]) | (refine Y8 ?_; simp only [tN, bN, eN, true_and]) | (refine Y9 ?_; simp only [tX, bS, bO, Nat.reduceBEq, tN, bN]) | (refine Y4 ?_ ?_; exact Z2) | (refine Y5 ?_ ?_; exact Z2) | fail)); exact hq)) : P := k q
theorem go2 {P Q R A B : Prop} (q : A -> Q) (r : B -> R) (k : (A -> Q) -> (B -> R) -> P := by (intro hq hr; (first | (apply U3; exact rfl; exact rfl; exact Z1; refine ⟨fun hh => ?_, fun hh => ?_⟩ <;> (try simp only [Bool.not_true, Bool.not_false, pM, pN] at hh ⊢) <;> (first | exact hq hh | exact hr hh)) | (apply Y6; exact Z1; refine ⟨fun hh => ?_, fun hh => ?_⟩ <;> (first | exact hq hh | exact hr hh)) | fail))) : P := k q r
end Go.AM
namespace Go.AM
open Go Go.Proofs
theorem ty_lay3 : lay Tryz.prog 3 = some (false, 1) := by kernel_rfl
theorem ty_sz3 : szT Tryz.prog 3 = 1 := by kernel_rfl
theorem ty_zero3 : zeroT Tryz.prog 3 = some (.int .i64 0) := by kernel_rfl
theorem ty_lay4 : lay Tryz.prog 4 = some (false, 1) := by kernel_rfl
theorem ty_sz4 : szT Tryz.prog 4 = 1 := by kernel_rfl
theorem ty_zero4 : zeroT Tryz.prog 4 = some (.bool false) := by kernel_rfl
theorem ty_lay5 : lay Tryz.prog 5 = some (false, 1) := by kernel_rfl
theorem ty_sz5 : szT Tryz.prog 5 = 1 := by kernel_rfl
theorem ty_zero5 : zeroT Tryz.prog 5 = some (.int .u8 0) := by kernel_rfl
theorem ty_lay9 : lay Tryz.prog 9 = some (false, 1) := by kernel_rfl
theorem ty_sz9 : szT Tryz.prog 9 = 1 := by kernel_rfl
theorem ty_zero9 : zeroT Tryz.prog 9 = some (.str []) := by kernel_rfl
theorem ty_lay20 : lay Tryz.prog 20 = some (false, 1) := by kernel_rfl
theorem ty_sz20 : szT Tryz.prog 20 = 1 := by kernel_rfl
theorem ty_zero20 : zeroT Tryz.prog 20 = some (.niliface) := by kernel_rfl
theorem ty_lay21 : lay Tryz.prog 21 = some (false, 1) := by kernel_rfl
theorem ty_sz21 : szT Tryz.prog 21 = 1 := by kernel_rfl
theorem ty_zero21 : zeroT Tryz.prog 21 = some (.int .i32 0) := by kernel_rfl
theorem ty_lay22 : lay Tryz.prog 22 = some (false, 1) := by kernel_rfl
theorem ty_sz22 : szT Tryz.prog 22 = 1 := by kernel_rfl
theorem ty_zero22 : zeroT Tryz.prog 22 = some (.nilslice) := by kernel_rfl
theorem ty_el22 : elemT Tryz.prog 22 = some 38 := by kernel_rfl
theorem ty_row22 : rowable Tryz.prog 38 = true := by kernel_rfl
theorem ty_lay24 : lay Tryz.prog 24 = some (false, 1) := by kernel_rfl
theorem ty_sz24 : szT Tryz.prog 24 = 1 := by kernel_rfl
theorem ty_zero24 : zeroT Tryz.prog 24 = some (.int .i64 0) := by kernel_rfl
theorem ty_lay27 : lay Tryz.prog 27 = some (false, 1) := by kernel_rfl
theorem ty_sz27 : szT Tryz.prog 27 = 1 := by kernel_rfl
theorem ty_zero27 : zeroT Tryz.prog 27 = some (.nilfunc) := by kernel_rfl
theorem ty_lay33 : lay Tryz.prog 33 = some (true, 2) := by kernel_rfl
theorem ty_sz33 : szT Tryz.prog 33 = 2 := by kernel_rfl
theorem ty_zero33 : zeroT Tryz.prog 33 = some (.agg [.nilslice, .int .i64 0]) := by kernel_rfl
theorem ty_fl33_0 : fieldOf Tryz.prog 33 0 = some (22, 0) := by kernel_rfl
theorem ty_pl33_0 : placeOf Tryz.prog 33 0 = some (0, 1) := by kernel_rfl
theorem ty_fl33_1 : fieldOf Tryz.prog 33 1 = some (3, 1) := by kernel_rfl
theorem ty_pl33_1 : placeOf Tryz.prog 33 1 = some (1, 1) := by kernel_rfl
theorem ty_pk33 : partsKnown Tryz.prog 33 = true := by kernel_rfl
theorem ty_lay36 : lay Tryz.prog 36 = some (false, 1) := by kernel_rfl
theorem ty_sz36 : szT Tryz.prog 36 = 1 := by kernel_rfl
theorem ty_zero36 : zeroT Tryz.prog 36 = some (.nilfunc) := by kernel_rfl
theorem ty_lay38 : lay Tryz.prog 38 = some (true, 2) := by kernel_rfl
theorem ty_sz38 : szT Tryz.prog 38 = 2 := by kernel_rfl
theorem ty_zero38 : zeroT Tryz.prog 38 = some (.agg [.int .i64 0, .int .i64 0]) := by kernel_rfl
theorem ty_fl38_0 : fieldOf Tryz.prog 38 0 = some (3, 0) := by kernel_rfl
theorem ty_pl38_0 : placeOf Tryz.prog 38 0 = some (0, 1) := by kernel_rfl
theorem ty_fl38_1 : fieldOf Tryz.prog 38 1 = some (3, 1) := by kernel_rfl
theorem ty_pl38_1 : placeOf Tryz.prog 38 1 = some (1, 1) := by kernel_rfl
theorem ty_pk38 : partsKnown Tryz.prog 38 = true := by kernel_rfl
theorem ty_lay39 : lay Tryz.prog 39 = some (false, 1) := by kernel_rfl
theorem ty_sz39 : szT Tryz.prog 39 = 1 := by kernel_rfl
theorem ty_zero39 : zeroT Tryz.prog 39 = some (.nilslice) := by kernel_rfl
theorem ty_el39 : elemT Tryz.prog 39 = some 3 := by kernel_rfl
theorem ty_row39 : rowable Tryz.prog 3 = true := by kernel_rfl
theorem ty_lay48 : lay Tryz.prog 48 = some (true, 2) := by kernel_rfl
theorem ty_sz48 : szT Tryz.prog 48 = 2 := by kernel_rfl
theorem ty_zero48 : zeroT Tryz.prog 48 = some (.agg [.int .i64 0, .int .i64 0]) := by kernel_rfl
theorem ty_fl48_0 : fieldOf Tryz.prog 48 0 = some (3, 0) := by kernel_rfl
theorem ty_pl48_0 : placeOf Tryz.prog 48 0 = some (0, 1) := by kernel_rfl
theorem ty_fl48_1 : fieldOf Tryz.prog 48 1 = some (3, 1) := by kernel_rfl
theorem ty_pl48_1 : placeOf Tryz.prog 48 1 = some (1, 1) := by kernel_rfl
theorem ty_pk48 : partsKnown Tryz.prog 48 = true := by kernel_rfl
theorem ty_lay49 : lay Tryz.prog 49 = some (false, 1) := by kernel_rfl
theorem ty_sz49 : szT Tryz.prog 49 = 1 := by kernel_rfl
theorem ty_zero49 : zeroT Tryz.prog 49 = some (.nilslice) := by kernel_rfl
theorem ty_el49 : elemT Tryz.prog 49 = some 95 := by kernel_rfl
theorem ty_row49 : rowable Tryz.prog 95 = true := by kernel_rfl
theorem ty_lay51 : lay Tryz.prog 51 = some (true, 10) := by kernel_rfl
theorem ty_sz51 : szT Tryz.prog 51 = 10 := by kernel_rfl
theorem ty_zero51 : zeroT Tryz.prog 51 = some (.agg [.nilslice, .int .i64 0, .int .i64 0, .int .i64 0, .int .i64 0, .int .i64 0, .int .i64 0, .int .i64 0, .int .i64 0, .nilslice]) := by kernel_rfl
theorem ty_fl51_0 : fieldOf Tryz.prog 51 0 = some (22, 0) := by kernel_rfl
theorem ty_pl51_0 : placeOf Tryz.prog 51 0 = some (0, 1) := by kernel_rfl
theorem ty_fl51_1 : fieldOf Tryz.prog 51 1 = some (48, 1) := by kernel_rfl
theorem ty_pl51_1 : placeOf Tryz.prog 51 1 = some (1, 2) := by kernel_rfl
theorem ty_fl51_2 : fieldOf Tryz.prog 51 2 = some (48, 3) := by kernel_rfl
theorem ty_pl51_2 : placeOf Tryz.prog 51 2 = some (3, 2) := by kernel_rfl
theorem ty_fl51_3 : fieldOf Tryz.prog 51 3 = some (48, 5) := by kernel_rfl
theorem ty_pl51_3 : placeOf Tryz.prog 51 3 = some (5, 2) := by kernel_rfl
theorem ty_fl51_4 : fieldOf Tryz.prog 51 4 = some (48, 7) := by kernel_rfl
theorem ty_pl51_4 : placeOf Tryz.prog 51 4 = some (7, 2) := by kernel_rfl
theorem ty_fl51_5 : fieldOf Tryz.prog 51 5 = some (49, 9) := by kernel_rfl
theorem ty_pl51_5 : placeOf Tryz.prog 51 5 = some (9, 1) := by kernel_rfl
theorem ty_pk51 : partsKnown Tryz.prog 51 = true := by kernel_rfl
theorem ty_lay52 : lay Tryz.prog 52 = some (false, 1) := by kernel_rfl
theorem ty_sz52 : szT Tryz.prog 52 = 1 := by kernel_rfl
theorem ty_zero52 : zeroT Tryz.prog 52 = some (.nilfunc) := by kernel_rfl
theorem ty_lay60 : lay Tryz.prog 60 = some (false, 1) := by kernel_rfl
theorem ty_sz60 : szT Tryz.prog 60 = 1 := by kernel_rfl
theorem ty_zero60 : zeroT Tryz.prog 60 = some (.int .i64 0) := by kernel_rfl
theorem ty_lay70 : lay Tryz.prog 70 = some (false, 1) := by kernel_rfl
theorem ty_sz70 : szT Tryz.prog 70 = 1 := by kernel_rfl
theorem ty_zero70 : zeroT Tryz.prog 70 = some (.nilslice) := by kernel_rfl
theorem ty_el70 : elemT Tryz.prog 70 = some 77 := by kernel_rfl
theorem ty_row70 : rowable Tryz.prog 77 = true := by kernel_rfl
theorem ty_lay75 : lay Tryz.prog 75 = some (false, 1) := by kernel_rfl
theorem ty_sz75 : szT Tryz.prog 75 = 1 := by kernel_rfl
theorem ty_zero75 : zeroT Tryz.prog 75 = some (.nilfunc) := by kernel_rfl
theorem ty_lay77 : lay Tryz.prog 77 = some (true, 2) := by kernel_rfl
theorem ty_sz77 : szT Tryz.prog 77 = 2 := by kernel_rfl
theorem ty_zero77 : zeroT Tryz.prog 77 = some (.agg [.nilslice, .int .i64 0]) := by kernel_rfl
theorem ty_fl77_0 : fieldOf Tryz.prog 77 0 = some (22, 0) := by kernel_rfl
theorem ty_pl77_0 : placeOf Tryz.prog 77 0 = some (0, 1) := by kernel_rfl
theorem ty_fl77_1 : fieldOf Tryz.prog 77 1 = some (3, 1) := by kernel_rfl
theorem ty_pl77_1 : placeOf Tryz.prog 77 1 = some (1, 1) := by kernel_rfl
theorem ty_pk77 : partsKnown Tryz.prog 77 = true := by kernel_rfl
theorem ty_lay95 : lay Tryz.prog 95 = some (true, 4) := by kernel_rfl
theorem ty_sz95 : szT Tryz.prog 95 = 4 := by kernel_rfl
theorem ty_zero95 : zeroT Tryz.prog 95 = some (.agg [.int .i64 0, .int .i64 0, .int .i64 0, .int .i64 0]) := by kernel_rfl
theorem ty_fl95_0 : fieldOf Tryz.prog 95 0 = some (3, 0) := by kernel_rfl
theorem ty_pl95_0 : placeOf Tryz.prog 95 0 = some (0, 1) := by kernel_rfl
theorem ty_fl95_1 : fieldOf Tryz.prog 95 1 = some (3, 1) := by kernel_rfl
theorem ty_pl95_1 : placeOf Tryz.prog 95 1 = some (1, 1) := by kernel_rfl
theorem ty_fl95_2 : fieldOf Tryz.prog 95 2 = some (3, 2) := by kernel_rfl
theorem ty_pl95_2 : placeOf Tryz.prog 95 2 = some (2, 1) := by kernel_rfl
theorem ty_fl95_3 : fieldOf Tryz.prog 95 3 = some (3, 3) := by kernel_rfl
theorem ty_pl95_3 : placeOf Tryz.prog 95 3 = some (3, 1) := by kernel_rfl
theorem ty_pk95 : partsKnown Tryz.prog 95 = true := by kernel_rfl
theorem ty_lay103 : lay Tryz.prog 103 = some (false, 1) := by kernel_rfl
theorem ty_sz103 : szT Tryz.prog 103 = 1 := by kernel_rfl
theorem ty_zero103 : zeroT Tryz.prog 103 = some (.nilslice) := by kernel_rfl
theorem ty_el103 : elemT Tryz.prog 103 = some 51 := by kernel_rfl
theorem ty_row103 : rowable Tryz.prog 51 = true := by kernel_rfl
theorem ty_lay109 : lay Tryz.prog 109 = some (true, 2) := by kernel_rfl
theorem ty_sz109 : szT Tryz.prog 109 = 2 := by kernel_rfl
theorem ty_zero109 : zeroT Tryz.prog 109 = some (.agg [.nilslice, .nilslice]) := by kernel_rfl
theorem ty_fl109_0 : fieldOf Tryz.prog 109 0 = some (39, 0) := by kernel_rfl
theorem ty_pl109_0 : placeOf Tryz.prog 109 0 = some (0, 1) := by kernel_rfl
theorem ty_fl109_1 : fieldOf Tryz.prog 109 1 = some (39, 1) := by kernel_rfl
theorem ty_pl109_1 : placeOf Tryz.prog 109 1 = some (1, 1) := by kernel_rfl
theorem ty_pk109 : partsKnown Tryz.prog 109 = true := by kernel_rfl
theorem ty_lay131 : lay Tryz.prog 131 = some (false, 1) := by kernel_rfl
theorem ty_sz131 : szT Tryz.prog 131 = 1 := by kernel_rfl
theorem ty_zero131 : zeroT Tryz.prog 131 = some (.nilslice) := by kernel_rfl
theorem ty_el131 : elemT Tryz.prog 131 = some 5 := by kernel_rfl
theorem ty_row131 : rowable Tryz.prog 5 = true := by kernel_rfl
theorem ty_lay141 : lay Tryz.prog 141 = some (false, 1) := by kernel_rfl
theorem ty_sz141 : szT Tryz.prog 141 = 1 := by kernel_rfl
theorem ty_zero141 : zeroT Tryz.prog 141 = some (.niliface) := by kernel_rfl
theorem ty_lay146 : lay Tryz.prog 146 = some (false, 1) := by kernel_rfl
theorem ty_sz146 : szT Tryz.prog 146 = 1 := by kernel_rfl
theorem ty_zero146 : zeroT Tryz.prog 146 = some (.nilslice) := by kernel_rfl
theorem ty_el146 : elemT Tryz.prog 146 = some 48 := by kernel_rfl
theorem ty_row146 : rowable Tryz.prog 48 = true := by kernel_rfl
theorem ty_lay147 : lay Tryz.prog 147 = some (true, 2) := by kernel_rfl
theorem ty_sz147 : szT Tryz.prog 147 = 2 := by kernel_rfl
theorem ty_zero147 : zeroT Tryz.prog 147 = some (.agg [.nilslice, .nilslice]) := by kernel_rfl
theorem ty_pl147_0 : placeOf Tryz.prog 147 0 = some (0, 1) := by kernel_rfl
theorem ty_pl147_1 : placeOf Tryz.prog 147 1 = some (1, 1) := by kernel_rfl
theorem ty_pk147 : partsKnown Tryz.prog 147 = true := by kernel_rfl
theorem ty_lay149 : lay Tryz.prog 149 = some (false, 1) := by kernel_rfl
theorem ty_sz149 : szT Tryz.prog 149 = 1 := by kernel_rfl
theorem ty_zero149 : zeroT Tryz.prog 149 = some (.nilmap) := by kernel_rfl
theorem ty_lay151 : lay Tryz.prog 151 = some (true, 11) := by kernel_rfl
theorem ty_sz151 : szT Tryz.prog 151 = 11 := by kernel_rfl
theorem ty_zero151 : zeroT Tryz.prog 151 = some (.agg [.nilslice, .int .i64 0, .int .i64 0, .int .i64 0, .int .i64 0, .int .i64 0, .int .i64 0, .int .i64 0, .int .i64 0, .nilslice, .nilmap]) := by kernel_rfl
theorem ty_fl151_0 : fieldOf Tryz.prog 151 0 = some (51, 0) := by kernel_rfl
theorem ty_pl151_0 : placeOf Tryz.prog 151 0 = some (0, 10) := by kernel_rfl
theorem ty_fl151_1 : fieldOf Tryz.prog 151 1 = some (149, 10) := by kernel_rfl
theorem ty_pl151_1 : placeOf Tryz.prog 151 1 = some (10, 1) := by kernel_rfl
theorem ty_pk151 : partsKnown Tryz.prog 151 = true := by kernel_rfl
theorem ty_lay156 : lay Tryz.prog 156 = some (false, 1) := by kernel_rfl
theorem ty_sz156 : szT Tryz.prog 156 = 1 := by kernel_rfl
theorem ty_zero156 : zeroT Tryz.prog 156 = some (.nilslice) := by kernel_rfl
theorem ty_el156 : elemT Tryz.prog 156 = some 181 := by kernel_rfl
theorem ty_row156 : rowable Tryz.prog 181 = true := by kernel_rfl
theorem ty_lay164 : lay Tryz.prog 164 = some (false, 1) := by kernel_rfl
theorem ty_sz164 : szT Tryz.prog 164 = 1 := by kernel_rfl
theorem ty_zero164 : zeroT Tryz.prog 164 = some (.nilslice) := by kernel_rfl
theorem ty_el164 : elemT Tryz.prog 164 = some 165 := by kernel_rfl
theorem ty_row164 : rowable Tryz.prog 165 = true := by kernel_rfl
theorem ty_lay165 : lay Tryz.prog 165 = some (false, 1) := by kernel_rfl
theorem ty_sz165 : szT Tryz.prog 165 = 1 := by kernel_rfl
theorem ty_zero165 : zeroT Tryz.prog 165 = some (.nilslice) := by kernel_rfl
theorem ty_el165 : elemT Tryz.prog 165 = some 169 := by kernel_rfl
theorem ty_row165 : rowable Tryz.prog 169 = true := by kernel_rfl
theorem ty_lay166 : lay Tryz.prog 166 = some (false, 1) := by kernel_rfl
theorem ty_sz166 : szT Tryz.prog 166 = 1 := by kernel_rfl
theorem ty_zero166 : zeroT Tryz.prog 166 = some (.nilfunc) := by kernel_rfl
theorem ty_lay169 : lay Tryz.prog 169 = some (true, 4) := by kernel_rfl
theorem ty_sz169 : szT Tryz.prog 169 = 4 := by kernel_rfl
theorem ty_zero169 : zeroT Tryz.prog 169 = some (.agg [.int .i64 0, .int .i64 0, .int .i64 0, .int .i64 0]) := by kernel_rfl
theorem ty_pl169_0 : placeOf Tryz.prog 169 0 = some (0, 2) := by kernel_rfl
theorem ty_pl169_1 : placeOf Tryz.prog 169 1 = some (2, 2) := by kernel_rfl
theorem ty_pk169 : partsKnown Tryz.prog 169 = true := by kernel_rfl
theorem ty_lay171 : lay Tryz.prog 171 = some (false, 1) := by kernel_rfl
theorem ty_sz171 : szT Tryz.prog 171 = 1 := by kernel_rfl
theorem ty_zero171 : zeroT Tryz.prog 171 = some (.nilfunc) := by kernel_rfl
theorem ty_lay172 : lay Tryz.prog 172 = some (false, 1) := by kernel_rfl
theorem ty_sz172 : szT Tryz.prog 172 = 1 := by kernel_rfl
theorem ty_zero172 : zeroT Tryz.prog 172 = some (.nilslice) := by kernel_rfl
theorem ty_el172 : elemT Tryz.prog 172 = some 173 := by kernel_rfl
theorem ty_row172 : rowable Tryz.prog 173 = true := by kernel_rfl
theorem ty_lay173 : lay Tryz.prog 173 = some (false, 1) := by kernel_rfl
theorem ty_sz173 : szT Tryz.prog 173 = 1 := by kernel_rfl
theorem ty_zero173 : zeroT Tryz.prog 173 = some (.nilslice) := by kernel_rfl
theorem ty_el173 : elemT Tryz.prog 173 = some 176 := by kernel_rfl
theorem ty_row173 : rowable Tryz.prog 176 = true := by kernel_rfl
theorem ty_lay176 : lay Tryz.prog 176 = some (true, 5) := by kernel_rfl
theorem ty_sz176 : szT Tryz.prog 176 = 5 := by kernel_rfl
theorem ty_zero176 : zeroT Tryz.prog 176 = some (.agg [.int .i64 0, .int .i64 0, .int .i64 0, .int .i64 0, .int .i64 0]) := by kernel_rfl
theorem ty_fl176_0 : fieldOf Tryz.prog 176 0 = some (3, 0) := by kernel_rfl
theorem ty_pl176_0 : placeOf Tryz.prog 176 0 = some (0, 1) := by kernel_rfl
theorem ty_fl176_1 : fieldOf Tryz.prog 176 1 = some (169, 1) := by kernel_rfl
theorem ty_pl176_1 : placeOf Tryz.prog 176 1 = some (1, 4) := by kernel_rfl
theorem ty_pk176 : partsKnown Tryz.prog 176 = true := by kernel_rfl
theorem ty_lay181 : lay Tryz.prog 181 = some (true, 5) := by kernel_rfl
theorem ty_sz181 : szT Tryz.prog 181 = 5 := by kernel_rfl
theorem ty_zero181 : zeroT Tryz.prog 181 = some (.agg [.int .i64 0, .int .i64 0, .int .i64 0, .int .i64 0, .int .i64 0]) := by kernel_rfl
theorem ty_fl181_0 : fieldOf Tryz.prog 181 0 = some (3, 0) := by kernel_rfl
theorem ty_pl181_0 : placeOf Tryz.prog 181 0 = some (0, 1) := by kernel_rfl
theorem ty_fl181_1 : fieldOf Tryz.prog 181 1 = some (48, 1) := by kernel_rfl
theorem ty_pl181_1 : placeOf Tryz.prog 181 1 = some (1, 2) := by kernel_rfl
theorem ty_fl181_2 : fieldOf Tryz.prog 181 2 = some (48, 3) := by kernel_rfl
theorem ty_pl181_2 : placeOf Tryz.prog 181 2 = some (3, 2) := by kernel_rfl
theorem ty_pk181 : partsKnown Tryz.prog 181 = true := by kernel_rfl
theorem ty_lay182 : lay Tryz.prog 182 = some (false, 1) := by kernel_rfl
theorem ty_sz182 : szT Tryz.prog 182 = 1 := by kernel_rfl
theorem ty_zero182 : zeroT Tryz.prog 182 = some (.nilslice) := by kernel_rfl
theorem ty_el182 : elemT Tryz.prog 182 = some 186 := by kernel_rfl
theorem ty_row182 : rowable Tryz.prog 186 = true := by kernel_rfl
theorem ty_lay183 : lay Tryz.prog 183 = some (false, 1) := by kernel_rfl
theorem ty_sz183 : szT Tryz.prog 183 = 1 := by kernel_rfl
theorem ty_zero183 : zeroT Tryz.prog 183 = some (.nilfunc) := by kernel_rfl
theorem ty_lay186 : lay Tryz.prog 186 = some (true, 3) := by kernel_rfl
theorem ty_sz186 : szT Tryz.prog 186 = 3 := by kernel_rfl
theorem ty_zero186 : zeroT Tryz.prog 186 = some (.agg [.nilslice, .int .i64 0, .int .i64 0]) := by kernel_rfl
theorem ty_fl186_0 : fieldOf Tryz.prog 186 0 = some (22, 0) := by kernel_rfl
theorem ty_pl186_0 : placeOf Tryz.prog 186 0 = some (0, 1) := by kernel_rfl
theorem ty_fl186_1 : fieldOf Tryz.prog 186 1 = some (3, 1) := by kernel_rfl
theorem ty_pl186_1 : placeOf Tryz.prog 186 1 = some (1, 1) := by kernel_rfl
theorem ty_fl186_2 : fieldOf Tryz.prog 186 2 = some (3, 2) := by kernel_rfl
theorem ty_pl186_2 : placeOf Tryz.prog 186 2 = some (2, 1) := by kernel_rfl
theorem ty_pk186 : partsKnown Tryz.prog 186 = true := by kernel_rfl
theorem ty_lay193 : lay Tryz.prog 193 = some (false, 1) := by kernel_rfl
theorem ty_sz193 : szT Tryz.prog 193 = 1 := by kernel_rfl
theorem ty_zero193 : zeroT Tryz.prog 193 = some (.nilfunc) := by kernel_rfl
theorem ty_lay194 : lay Tryz.prog 194 = some (false, 1) := by kernel_rfl
theorem ty_sz194 : szT Tryz.prog 194 = 1 := by kernel_rfl
theorem ty_zero194 : zeroT Tryz.prog 194 = some (.nilslice) := by kernel_rfl
theorem ty_el194 : elemT Tryz.prog 194 = some 39 := by kernel_rfl
theorem ty_row194 : rowable Tryz.prog 39 = true := by kernel_rfl
theorem ty_lay202 : lay Tryz.prog 202 = some (true, 2) := by kernel_rfl
theorem ty_sz202 : szT Tryz.prog 202 = 2 := by kernel_rfl
theorem ty_zero202 : zeroT Tryz.prog 202 = some (.agg [.int .i64 0, .int .i64 0]) := by kernel_rfl
theorem ty_fl202_0 : fieldOf Tryz.prog 202 0 = some (3, 0) := by kernel_rfl
theorem ty_pl202_0 : placeOf Tryz.prog 202 0 = some (0, 1) := by kernel_rfl
theorem ty_fl202_1 : fieldOf Tryz.prog 202 1 = some (3, 1) := by kernel_rfl
theorem ty_pl202_1 : placeOf Tryz.prog 202 1 = some (1, 1) := by kernel_rfl
theorem ty_pk202 : partsKnown Tryz.prog 202 = true := by kernel_rfl
theorem ty_lay205 : lay Tryz.prog 205 = some (true, 1) := by kernel_rfl
theorem ty_sz205 : szT Tryz.prog 205 = 1 := by kernel_rfl
theorem ty_zero205 : zeroT Tryz.prog 205 = some (.agg [.str []]) := by kernel_rfl
theorem ty_fl205_0 : fieldOf Tryz.prog 205 0 = some (9, 0) := by kernel_rfl
theorem ty_pl205_0 : placeOf Tryz.prog 205 0 = some (0, 1) := by kernel_rfl
theorem ty_pk205 : partsKnown Tryz.prog 205 = true := by kernel_rfl
theorem ty_lay208 : lay Tryz.prog 208 = some (false, 1) := by kernel_rfl
theorem ty_sz208 : szT Tryz.prog 208 = 1 := by kernel_rfl
theorem ty_zero208 : zeroT Tryz.prog 208 = some (.nilslice) := by kernel_rfl
theorem ty_el208 : elemT Tryz.prog 208 = some 9 := by kernel_rfl
theorem ty_row208 : rowable Tryz.prog 9 = true := by kernel_rfl
theorem ty_lay214 : lay Tryz.prog 214 = some (false, 1) := by kernel_rfl
theorem ty_sz214 : szT Tryz.prog 214 = 1 := by kernel_rfl
theorem ty_zero214 : zeroT Tryz.prog 214 = some (.nilfunc) := by kernel_rfl
theorem ty_lay215 : lay Tryz.prog 215 = some (false, 1) := by kernel_rfl
theorem ty_sz215 : szT Tryz.prog 215 = 1 := by kernel_rfl
theorem ty_zero215 : zeroT Tryz.prog 215 = some (.int .i64 0) := by kernel_rfl
theorem ty_lay217 : lay Tryz.prog 217 = some (false, 1) := by kernel_rfl
theorem ty_sz217 : szT Tryz.prog 217 = 1 := by kernel_rfl
theorem ty_zero217 : zeroT Tryz.prog 217 = some (.int .i64 0) := by kernel_rfl
theorem ty_lay221 : lay Tryz.prog 221 = some (false, 1) := by kernel_rfl
theorem ty_sz221 : szT Tryz.prog 221 = 1 := by kernel_rfl
theorem ty_zero221 : zeroT Tryz.prog 221 = some (.nilfunc) := by kernel_rfl
theorem ty_lay223 : lay Tryz.prog 223 = some (true, 1) := by kernel_rfl
theorem ty_sz223 : szT Tryz.prog 223 = 1 := by kernel_rfl
theorem ty_zero223 : zeroT Tryz.prog 223 = some (.agg [.int .i64 0]) := by kernel_rfl
theorem ty_fl223_0 : fieldOf Tryz.prog 223 0 = some (3, 0) := by kernel_rfl
theorem ty_pl223_0 : placeOf Tryz.prog 223 0 = some (0, 1) := by kernel_rfl
theorem ty_pk223 : partsKnown Tryz.prog 223 = true := by kernel_rfl
theorem ty_lay224 : lay Tryz.prog 224 = some (false, 1) := by kernel_rfl
theorem ty_sz224 : szT Tryz.prog 224 = 1 := by kernel_rfl
theorem ty_zero224 : zeroT Tryz.prog 224 = some (.nilfunc) := by kernel_rfl
theorem ty_lay225 : lay Tryz.prog 225 = some (true, 2) := by kernel_rfl
theorem ty_sz225 : szT Tryz.prog 225 = 2 := by kernel_rfl
theorem ty_zero225 : zeroT Tryz.prog 225 = some (.agg [.nilfunc, .nilfunc]) := by kernel_rfl
theorem ty_pl225_0 : placeOf Tryz.prog 225 0 = some (0, 1) := by kernel_rfl
theorem ty_pl225_1 : placeOf Tryz.prog 225 1 = some (1, 1) := by kernel_rfl
theorem ty_pk225 : partsKnown Tryz.prog 225 = true := by kernel_rfl
theorem ty_lay226 : lay Tryz.prog 226 = some (false, 1) := by kernel_rfl
theorem ty_sz226 : szT Tryz.prog 226 = 1 := by kernel_rfl
theorem ty_zero226 : zeroT Tryz.prog 226 = some (.nilslice) := by kernel_rfl
theorem ty_el226 : elemT Tryz.prog 226 = some 230 := by kernel_rfl
theorem ty_row226 : rowable Tryz.prog 230 = true := by kernel_rfl
theorem ty_lay228 : lay Tryz.prog 228 = some (true, 5) := by kernel_rfl
theorem ty_sz228 : szT Tryz.prog 228 = 5 := by kernel_rfl
theorem ty_zero228 : zeroT Tryz.prog 228 = some (.agg [.int .i64 0, .int .i64 0, .int .i64 0, .int .i64 0, .nilslice]) := by kernel_rfl
theorem ty_fl228_0 : fieldOf Tryz.prog 228 0 = some (48, 0) := by kernel_rfl
theorem ty_pl228_0 : placeOf Tryz.prog 228 0 = some (0, 2) := by kernel_rfl
theorem ty_fl228_1 : fieldOf Tryz.prog 228 1 = some (48, 2) := by kernel_rfl
theorem ty_pl228_1 : placeOf Tryz.prog 228 1 = some (2, 2) := by kernel_rfl
theorem ty_fl228_2 : fieldOf Tryz.prog 228 2 = some (226, 4) := by kernel_rfl
theorem ty_pl228_2 : placeOf Tryz.prog 228 2 = some (4, 1) := by kernel_rfl
theorem ty_pk228 : partsKnown Tryz.prog 228 = true := by kernel_rfl
theorem ty_lay230 : lay Tryz.prog 230 = some (true, 3) := by kernel_rfl
theorem ty_sz230 : szT Tryz.prog 230 = 3 := by kernel_rfl
theorem ty_zero230 : zeroT Tryz.prog 230 = some (.agg [.int .i64 0, .int .i64 0, .int .i64 0]) := by kernel_rfl
theorem ty_fl230_0 : fieldOf Tryz.prog 230 0 = some (3, 0) := by kernel_rfl
theorem ty_pl230_0 : placeOf Tryz.prog 230 0 = some (0, 1) := by kernel_rfl
theorem ty_fl230_1 : fieldOf Tryz.prog 230 1 = some (48, 1) := by kernel_rfl
theorem ty_pl230_1 : placeOf Tryz.prog 230 1 = some (1, 2) := by kernel_rfl
theorem ty_pk230 : partsKnown Tryz.prog 230 = true := by kernel_rfl
theorem ty_lay237 : lay Tryz.prog 237 = some (false, 1) := by kernel_rfl
theorem ty_sz237 : szT Tryz.prog 237 = 1 := by kernel_rfl
theorem ty_zero237 : zeroT Tryz.prog 237 = some (.nilfunc) := by kernel_rfl
theorem ty_lay242 : lay Tryz.prog 242 = some (false, 1) := by kernel_rfl
theorem ty_sz242 : szT Tryz.prog 242 = 1 := by kernel_rfl
theorem ty_zero242 : zeroT Tryz.prog 242 = some (.nilfunc) := by kernel_rfl
theorem ty_lay263 : lay Tryz.prog 263 = some (false, 1) := by kernel_rfl
theorem ty_sz263 : szT Tryz.prog 263 = 1 := by kernel_rfl
theorem ty_zero263 : zeroT Tryz.prog 263 = some (.nilfunc) := by kernel_rfl
theorem ty_lay264 : lay Tryz.prog 264 = some (false, 1) := by kernel_rfl
theorem ty_sz264 : szT Tryz.prog 264 = 1 := by kernel_rfl
theorem ty_zero264 : zeroT Tryz.prog 264 = some (.nilptr) := by kernel_rfl
theorem ty_lay266 : lay Tryz.prog 266 = some (true, 2) := by kernel_rfl
theorem ty_sz266 : szT Tryz.prog 266 = 2 := by kernel_rfl
theorem ty_zero266 : zeroT Tryz.prog 266 = some (.agg [.nilptr, .nilslice]) := by kernel_rfl
theorem ty_fl266_0 : fieldOf Tryz.prog 266 0 = some (264, 0) := by kernel_rfl
theorem ty_pl266_0 : placeOf Tryz.prog 266 0 = some (0, 1) := by kernel_rfl
theorem ty_fl266_1 : fieldOf Tryz.prog 266 1 = some (131, 1) := by kernel_rfl
theorem ty_pl266_1 : placeOf Tryz.prog 266 1 = some (1, 1) := by kernel_rfl
theorem ty_pk266 : partsKnown Tryz.prog 266 = true := by kernel_rfl
attribute [go_sem] ty_lay3 ty_sz3 ty_zero3 ty_lay4 ty_sz4 ty_zero4 ty_lay5 ty_sz5 ty_zero5 ty_lay9 ty_sz9 ty_zero9 ty_lay20 ty_sz20 ty_zero20 ty_lay21 ty_sz21 ty_zero21 ty_lay22 ty_sz22 ty_zero22 ty_el22 ty_row22 ty_lay24 ty_sz24 ty_zero24 ty_lay27 ty_sz27 ty_zero27 ty_lay33 ty_sz33 ty_zero33 ty_fl33_0 ty_pl33_0 ty_fl33_1 ty_pl33_1 ty_pk33 ty_lay36 ty_sz36 ty_zero36 ty_lay38 ty_sz38 ty_zero38 ty_fl38_0 ty_pl38_0 ty_fl38_1 ty_pl38_1 ty_pk38 ty_lay39 ty_sz39 ty_zero39 ty_el39 ty_row39 ty_lay48 ty_sz48 ty_zero48 ty_fl48_0 ty_pl48_0 ty_fl48_1 ty_pl48_1 ty_pk48 ty_lay49 ty_sz49 ty_zero49 ty_el49 ty_row49 ty_lay51 ty_sz51 ty_zero51 ty_fl51_0 ty_pl51_0 ty_fl51_1 ty_pl51_1 ty_fl51_2 ty_pl51_2 ty_fl51_3 ty_pl51_3 ty_fl51_4 ty_pl51_4 ty_fl51_5 ty_pl51_5 ty_pk51 ty_lay52 ty_sz52 ty_zero52 ty_lay60 ty_sz60 ty_zero60 ty_lay70 ty_sz70 ty_zero70 ty_el70 ty_row70 ty_lay75 ty_sz75 ty_zero75 ty_lay77 ty_sz77 ty_zero77 ty_fl77_0 ty_pl77_0 ty_fl77_1 ty_pl77_1 ty_pk77 ty_lay95 ty_sz95 ty_zero95 ty_fl95_0 ty_pl95_0 ty_fl95_1 ty_pl95_1 ty_fl95_2 ty_pl95_2 ty_fl95_3 ty_pl95_3 ty_pk95 ty_lay103 ty_sz103 ty_zero103 ty_el103 ty_row103 ty_lay109 ty_sz109 ty_zero109 ty_fl109_0 ty_pl109_0 ty_fl109_1 ty_pl109_1 ty_pk109 ty_lay131 ty_sz131 ty_zero131 ty_el131 ty_row131 ty_lay141 ty_sz141 ty_zero141 ty_lay146 ty_sz146 ty_zero146 ty_el146 ty_row146 ty_lay147 ty_sz147 ty_zero147 ty_pl147_0 ty_pl147_1 ty_pk147 ty_lay149 ty_sz149 ty_zero149 ty_lay151 ty_sz151 ty_zero151 ty_fl151_0 ty_pl151_0 ty_fl151_1 ty_pl151_1 ty_pk151 ty_lay156 ty_sz156 ty_zero156 ty_el156 ty_row156 ty_lay164 ty_sz164 ty_zero164 ty_el164 ty_row164 ty_lay165 ty_sz165 ty_zero165 ty_el165 ty_row165 ty_lay166 ty_sz166 ty_zero166 ty_lay169 ty_sz169 ty_zero169 ty_pl169_0 ty_pl169_1 ty_pk169 ty_lay171 ty_sz171 ty_zero171 ty_lay172 ty_sz172 ty_zero172 ty_el172 ty_row172 ty_lay173 ty_sz173 ty_zero173 ty_el173 ty_row173 ty_lay176 ty_sz176 ty_zero176 ty_fl176_0 ty_pl176_0 ty_fl176_1 ty_pl176_1 ty_pk176 ty_lay181 ty_sz181 ty_zero181 ty_fl181_0 ty_pl181_0 ty_fl181_1 ty_pl181_1 ty_fl181_2 ty_pl181_2 ty_pk181 ty_lay182 ty_sz182 ty_zero182 ty_el182 ty_row182 ty_lay183 ty_sz183 ty_zero183 ty_lay186 ty_sz186 ty_zero186 ty_fl186_0 ty_pl186_0 ty_fl186_1 ty_pl186_1 ty_fl186_2 ty_pl186_2 ty_pk186 ty_lay193 ty_sz193 ty_zero193 ty_lay194 ty_sz194 ty_zero194 ty_el194 ty_row194 ty_lay202 ty_sz202 ty_zero202 ty_fl202_0 ty_pl202_0 ty_fl202_1 ty_pl202_1 ty_pk202 ty_lay205 ty_sz205 ty_zero205 ty_fl205_0 ty_pl205_0 ty_pk205 ty_lay208 ty_sz208 ty_zero208 ty_el208 ty_row208 ty_lay214 ty_sz214 ty_zero214 ty_lay215 ty_sz215 ty_zero215 ty_lay217 ty_sz217 ty_zero217 ty_lay221 ty_sz221 ty_zero221 ty_lay223 ty_sz223 ty_zero223 ty_fl223_0 ty_pl223_0 ty_pk223 ty_lay224 ty_sz224 ty_zero224 ty_lay225 ty_sz225 ty_zero225 ty_pl225_0 ty_pl225_1 ty_pk225 ty_lay226 ty_sz226 ty_zero226 ty_el226 ty_row226 ty_lay228 ty_sz228 ty_zero228 ty_fl228_0 ty_pl228_0 ty_fl228_1 ty_pl228_1 ty_fl228_2 ty_pl228_2 ty_pk228 ty_lay230 ty_sz230 ty_zero230 ty_fl230_0 ty_pl230_0 ty_fl230_1 ty_pl230_1 ty_pk230 ty_lay237 ty_sz237 ty_zero237 ty_lay242 ty_sz242 ty_zero242 ty_lay263 ty_sz263 ty_zero263 ty_lay264 ty_sz264 ty_zero264 ty_lay266 ty_sz266 ty_zero266 ty_fl266_0 ty_pl266_0 ty_fl266_1 ty_pl266_1 ty_pk266
attribute [go_sem] Tryz.underlying3 Tryz.underlying4 Tryz.underlying5 Tryz.underlying9 Tryz.underlying20 Tryz.underlying21 Tryz.underlying22 Tryz.underlying24 Tryz.underlying33 Tryz.underlying38 Tryz.underlying39 Tryz.underlying48 Tryz.underlying49 Tryz.underlying51 Tryz.underlying60 Tryz.underlying70 Tryz.underlying77 Tryz.underlying95 Tryz.underlying103 Tryz.underlying109 Tryz.underlying131 Tryz.underlying141 Tryz.underlying146 Tryz.underlying147 Tryz.underlying149 Tryz.underlying151 Tryz.underlying156 Tryz.underlying164 Tryz.underlying165 Tryz.underlying169 Tryz.underlying172 Tryz.underlying173 Tryz.underlying176 Tryz.underlying181 Tryz.underlying182 Tryz.underlying186 Tryz.underlying194 Tryz.underlying202 Tryz.underlying205 Tryz.underlying208 Tryz.underlying215 Tryz.underlying217 Tryz.underlying223 Tryz.underlying225 Tryz.underlying226 Tryz.underlying228 Tryz.underlying230 Tryz.underlying266
end Go.AM
