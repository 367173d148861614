/-
  DrillPrints, DrillReads and DrillSpoilt: the text of any machine is the one of the document, it is read as the machine, and a text of which one digit was changed is never read. No condition but the row's own: the tables of Go's library that it lists hold what the program's text lays there.
-/
import Derived.LaidSub
import Derived.Test.YtlhcjccaimmhgaaGreatDoorWXRS
import Derived.Test.YtlhcjccaimmhgaaGreatDoorWXR63
import Derived.Test.YtlhcjccaimmhgaaGreatDoorWXR50
import Derived.Test.YtlhcjccaimmhgaaGreatDoorWXR55
import Derived.Test.YtlhcjccaimmhgaaGreatDoorWXR57
import Derived.Test.YtlhcjccaimmhgaaGreatDoorWAI
import Derived.Test.YtlhcjccaimmhgaaGreatDoorWAK
import Derived.Test.YtlhcjccaimmhgaaGreatDoorWAM
import Derived.Test.YtlhcjccaimmhgaaGreatDoorWXLG
import Derived.Test.YtlhcjccaimmhgaaGreatDoorWAS
import Derived.Test.YtlhcjccaimmhgaaGreatDoorCards
set_option maxRecDepth 1000000
set_option linter.unusedSimpArgs false
set_option linter.unusedVariables false
set_option linter.unusedSectionVars false
namespace Go.Proofs.YtlhcjccaimmhgaaGreatDoor
open Go Go.AM Go.ChangeShapes Go.WideShapes Go.ChangeAt Go.RowKit
def laidL5 : List (String × DataW Unit) := [("math/bits.deBruijn32tab", Rows.laid_math_bits_deBruijn32tab), ("math/bits.deBruijn64tab", Rows.laid_math_bits_deBruijn64tab), ("internal/strconv.uint64pow10", Rows.laid_internal_strconv_uint64pow10), ("unicode/utf8.acceptRanges", Rows.laid_unicode_utf8_acceptRanges), ("unicode/utf8.first", Rows.laid_unicode_utf8_first)]
def keep3 (x : String × DataW Unit) : Bool := !(x.1 == "unicode/utf8.acceptRanges" || x.1 == "unicode/utf8.first")
theorem laidL5_keep : laidL5.filter keep3 = laidL := by
 have h1 : keep3 ("math/bits.deBruijn32tab", Rows.laid_math_bits_deBruijn32tab) = true := by unfold keep3; decide
 have h2 : keep3 ("math/bits.deBruijn64tab", Rows.laid_math_bits_deBruijn64tab) = true := by unfold keep3; decide
 have h3 : keep3 ("internal/strconv.uint64pow10", Rows.laid_internal_strconv_uint64pow10) = true := by unfold keep3; decide
 have h4 : keep3 ("unicode/utf8.acceptRanges", Rows.laid_unicode_utf8_acceptRanges) = false := by unfold keep3; decide
 have h5 : keep3 ("unicode/utf8.first", Rows.laid_unicode_utf8_first) = false := by unfold keep3; decide
 unfold laidL5 laidL
 simp only [List.filter_cons, h1, h2, h3, h4, h5, if_true, Bool.false_eq_true, if_false, List.filter_nil]
theorem laidSub {W : World} (h : laidMetH Tryz.prog laidL5 W) : laidMetH Tryz.prog laidL W := by
 have := h.filter keep3
 rw [laidL5_keep] at this
 exact this
end Go.Proofs.YtlhcjccaimmhgaaGreatDoor
namespace Go.AM
open Go Go.Proofs
def t34 : List (List AV × AV) := [(a34_0, v34_0)]
theorem M34 [Keep] (hT : TabK Tryz.prog) : IntrFn Tryz.prog 34 (pureFn (memo t34)) := by
 refine memo_intr (X := dX cZ) (cZ_sound hT) rfl ?_
 intro e he
 simp only [t34, List.mem_cons, List.not_mem_nil, or_false] at he
 subst he
 ·exact ⟨300, run34_0⟩
def t39 : List (List AV × AV) := [(a39_0, v39_0)]
theorem M39 [Keep] (hT : TabK Tryz.prog) : IntrFn Tryz.prog 39 (pureFn (memo t39)) := by
 refine memo_intr (X := dX cZ) (cZ_sound hT) rfl ?_
 intro e he
 simp only [t39, List.mem_cons, List.not_mem_nil, or_false] at he
 subst he
 ·exact ⟨300, run39_0⟩
def t43 : List (List AV × AV) := [(a43_0, v43_0)]
theorem M43 [Keep] (hT : TabK Tryz.prog) : IntrFn Tryz.prog 43 (pureFn (memo t43)) := by
 refine memo_intr (X := dX cZ) (cZ_sound hT) rfl ?_
 intro e he
 simp only [t43, List.mem_cons, List.not_mem_nil, or_false] at he
 subst he
 ·exact ⟨300, run43_0⟩
def t46 : List (List AV × AV) := [(a46_0, v46_0)]
theorem M46 [Keep] (hT : TabK Tryz.prog) : IntrFn Tryz.prog 46 (pureFn (memo t46)) := by
 refine memo_intr (X := dX cZ) (cZ_sound hT) rfl ?_
 intro e he
 simp only [t46, List.mem_cons, List.not_mem_nil, or_false] at he
 subst he
 ·exact ⟨300, run46_0⟩
theorem cZ_soundR [Keep] (hT : TabK Tryz.prog) : Sound (dXR cZ) := dXR_sound (cZ_sound hT).intr
def t63 : List (List AV × AV) := [(a63_0, v63_0)]
theorem M63 [Keep] (hT : TabK Tryz.prog) : IntrFn Tryz.prog 63 (pureFn (memo t63)) := by
 refine memo_intr (X := dXR cZ) (cZ_soundR hT) rfl ?_
 intro e he
 simp only [t63, List.mem_cons, List.not_mem_nil, or_false] at he
 subst he
 ·exact ⟨300, run63_0⟩
def t50 : List (List AV × AV) := [(a50_0, v50_0)]
theorem M50 [Keep] (hT : TabK Tryz.prog) : IntrFn Tryz.prog 50 (pureFn (memo t50)) := by
 refine memo_intr (X := dX cZ) (cZ_sound hT) rfl ?_
 intro e he
 simp only [t50, List.mem_cons, List.not_mem_nil, or_false] at he
 subst he
 ·exact ⟨300, run50_0⟩
def t55 : List (List AV × AV) := [(a55_0, v55_0)]
theorem M55 [Keep] (hT : TabK Tryz.prog) : IntrFn Tryz.prog 55 (pureFn (memo t55)) := by
 refine memo_intr (X := dX cZ) (cZ_sound hT) rfl ?_
 intro e he
 simp only [t55, List.mem_cons, List.not_mem_nil, or_false] at he
 subst he
 ·exact ⟨300, run55_0⟩
def t57 : List (List AV × AV) := [(a57_0, v57_0)]
theorem M57 [Keep] (hT : TabK Tryz.prog) : IntrFn Tryz.prog 57 (pureFn (memo t57)) := by
 refine memo_intr (X := dX cZ) (cZ_sound hT) rfl ?_
 intro e he
 simp only [t57, List.mem_cons, List.not_mem_nil, or_false] at he
 subst he
 ·exact ⟨300, run57_0⟩
def t82 : List (List AV × AV) := [(a82_0, v82_0)]
theorem M82 [Keep] (hT : TabK Tryz.prog) : IntrFn Tryz.prog 82 (pureFn (memo t82)) := by
 refine memo_intr (X := dX cZ) (cZ_sound hT) rfl ?_
 intro e he
 simp only [t82, List.mem_cons, List.not_mem_nil, or_false] at he
 subst he
 ·exact ⟨300, run82_0⟩
def cY : Itr
 | 34 => some (pureFn (memo t34))
 | 39 => some (pureFn (memo t39))
 | 43 => some (pureFn (memo t43))
 | 46 => some (pureFn (memo t46))
 | 63 => some (pureFn (memo t63))
 | 50 => some (pureFn (memo t50))
 | 55 => some (pureFn (memo t55))
 | 57 => some (pureFn (memo t57))
 | 82 => some (pureFn (memo t82))
 | f => cZ f
theorem cY_sound [Keep] (hT : TabK Tryz.prog) : Sound (dX cY) := dX_sound (fun f g h => by
 unfold cY at h
 split at h
 ·cases h; exact M34 hT
 ·cases h; exact M39 hT
 ·cases h; exact M43 hT
 ·cases h; exact M46 hT
 ·cases h; exact M63 hT
 ·cases h; exact M50 hT
 ·cases h; exact M55 hT
 ·cases h; exact M57 hT
 ·cases h; exact M82 hT
 ·exact (cZ_sound hT).intr f g h)
end Go.AM
namespace Go.AM
open Go Go.Proofs
theorem known_run [Keep] : isTrue (callF (dX cY) (ev (dX cY) 300) 25 [] emptyHp) = true := by kernel_rfl
theorem F25 [Keep] (hT : TabK Tryz.prog) : IntrFn Tryz.prog 25 (pureFn sp25) := by
 refine pure_intr1 (X := dX cY) (cY_sound hT) ?_ ?_
 ·intro args v e
  unfold sp25 at e
  split at e
  ·cases e; rfl
  ·cases e
 ·intro args v e
  unfold sp25 at e
  split at e
  ·cases e
   obtain ⟨h', e⟩ := isTrue_ret known_run
   exact ⟨h', 300, e⟩
  ·cases e
end Go.AM
set_option maxRecDepth 100000
namespace Go.AM
open Go Go.Proofs
variable [Keep]
theorem c25_sound (hT : TabK Tryz.prog) : Sound (dX (c25 cK)) := dX_sound (fun f g h => by
 unfold c25 at h
 split at h
 ·cases h; exact F25 hT
 ·exact (cK_sound hT).intr f g h)
theorem ClR.gives {X : Ctx} {f : FuncId} {args : List AV} {h : Heap} {v : AV} (c : ClR X f args h (isRet v)) : ∃ h', Cl X f args h (.ret v h' none) := by
 unfold ClR at c
 obtain ⟨r, ⟨n, hn⟩, q⟩ := c
 cases r with
 | ret u h' up =>
  cases up with
  | none => rw [isRet_ret] at q; subst q; exact ⟨h', n, hn⟩
  | some p => exact absurd q (by simp [isRet])
 | pan u h' up => exact absurd q (by simp [isRet])
 | fail => exact absurd q (by simp [isRet])
theorem Sh.i64 {n : Nat} {xs : List AV} (h : Sh Tryz.prog (n + 1) 3 xs) : ∃ i, xs = [.int .i64 i] := by
 obtain ⟨i, h, _⟩ := Sh.int Tryz.underlying3 h
 exact ⟨i, h⟩
theorem ag3 : isAggT Tryz.prog 3 = false := by simp [isAggT, Tryz.underlying3]
theorem ag38 : isAggT Tryz.prog 38 = true := by simp [isAggT, Tryz.underlying38]
theorem Sh.pt {n : Nat} {xs : List AV} (h : Sh Tryz.prog (n + 2) 38 xs) : ∃ p : Pt, xs = [.int .i64 p.x, .int .i64 p.y] := by
 have := Sh.struct Tryz.underlying38 h
 obtain ⟨x, y, rfl, h1, x2, y2, rfl, h2, rfl⟩ := this
 obtain ⟨a, rfl⟩ := Sh.i64 h1
 obtain ⟨b, rfl⟩ := Sh.i64 h2
 exact ⟨⟨a, b⟩, rfl⟩
theorem Sh.pts {n : Nat} {xs : List AV} (h : Sh Tryz.prog (n + 3) 22 xs) : ∃ (a : AV) (l : List Pt), xs = [a] ∧ isSl a (l.map ptC.enc) :=
 Sh.slice ptC Tryz.underlying22 (fun xs h => by
  obtain ⟨p, rfl⟩ := Sh.pt h
  exact ⟨p, by rw [ag38]; rfl⟩) h
end Go.AM
namespace Go.AM
open Go Go.Proofs
variable [Keep]
theorem ag51 : isAggT Tryz.prog 51 = true := by simp [isAggT, Tryz.underlying51]
theorem ag95 : isAggT Tryz.prog 95 = true := by simp [isAggT, Tryz.underlying95]
theorem Sh.sp {n : Nat} {xs : List AV} (h : Sh Tryz.prog (n + 2) 48 xs) : ∃ p : Sp, xs = [.int .i64 p.lo, .int .i64 p.hi] := by
 obtain ⟨x, y, rfl, h1, x2, y2, rfl, h2, rfl⟩ := Sh.struct Tryz.underlying48 h
 obtain ⟨a, rfl⟩ := Sh.i64 h1
 obtain ⟨b, rfl⟩ := Sh.i64 h2
 exact ⟨⟨a, b⟩, rfl⟩
theorem Sh.rdg {n : Nat} {xs : List AV} (h : Sh Tryz.prog (n + 2) 95 xs) : ∃ p : Rdg, xs = [.int .i64 p.b, .int .i64 p.x, .int .i64 p.y, .int .i64 p.err] := by
 obtain ⟨x, y, rfl, h1, x2, y2, rfl, h2, x3, y3, rfl, h3, x4, y4, rfl, h4, rfl⟩ := Sh.struct Tryz.underlying95 h
 obtain ⟨a, rfl⟩ := Sh.i64 h1
 obtain ⟨b, rfl⟩ := Sh.i64 h2
 obtain ⟨c, rfl⟩ := Sh.i64 h3
 obtain ⟨d, rfl⟩ := Sh.i64 h4
 exact ⟨⟨a, b, c, d⟩, rfl⟩
theorem Sh.rdgs {n : Nat} {xs : List AV} (h : Sh Tryz.prog (n + 3) 49 xs) : ∃ (a : AV) (l : List Rdg), xs = [a] ∧ isSl a (l.map rdgC.enc) :=
 Sh.slice rdgC Tryz.underlying49 (fun xs h => by
  obtain ⟨p, rfl⟩ := Sh.rdg h
  exact ⟨p, by rw [ag95]; rfl⟩) h
theorem Sh.mach {n : Nat} {xs : List AV} (h : Sh Tryz.prog (n + 4) 51 xs) : ∃ (sa ra : AV) (cx cy wx wy : Sp) (st : List Pt) (rs : List Rdg),
  xs = [sa, .int .i64 cx.lo, .int .i64 cx.hi, .int .i64 cy.lo, .int .i64 cy.hi, .int .i64 wx.lo, .int .i64 wx.hi, .int .i64 wy.lo, .int .i64 wy.hi, ra] ∧ isSl sa (st.map ptC.enc) ∧ isSl ra (rs.map rdgC.enc) := by
 obtain ⟨x1, y1, rfl, h1, x2, y2, rfl, h2, x3, y3, rfl, h3, x4, y4, rfl, h4, x5, y5, rfl, h5, x6, y6, rfl, h6, rfl⟩ := Sh.struct Tryz.underlying51 h
 obtain ⟨sa, st, rfl, hs⟩ := Sh.pts h1
 obtain ⟨cx, rfl⟩ := Sh.sp h2
 obtain ⟨cy, rfl⟩ := Sh.sp h3
 obtain ⟨wx, rfl⟩ := Sh.sp h4
 obtain ⟨wy, rfl⟩ := Sh.sp h5
 obtain ⟨ra, rs, rfl, hr⟩ := Sh.rdgs h6
 exact ⟨sa, ra, cx, cy, wx, wy, st, rs, rfl, hs, hr⟩
end Go.AM
namespace Go.AM
open Go Go.Proofs
variable [Keep]
theorem c22_sound (hT : TabK Tryz.prog) : Sound (dX c22) := dX_sound (fun f g h => by
 unfold c22 at h
 split at h
 ·cases h; exact F38
 ·cases h; exact F71
 ·cases h; exact F82 hT
 ·cases h; exact F83 hT
 ·cases h; exact F84 hT
 ·cases h; exact F85
 ·exact (c25_sound hT).intr f g h)
end Go.AM
namespace Go.Proofs.YtlhcjccaimmhgaaGreatDoor
open Go Go.AM Go.ChangeShapes Go.WideShapes Go.ChangeAt Go.RowKit
theorem law22 [Keep] (hT : TabK Tryz.prog) (avs : List AV) (h : ArgsOk Tryz.prog Tryz.f22.params.toList avs) : ∃ X, X.P = Tryz.prog ∧ Sound X ∧ ∃ h', Cl X 22 avs emptyHp (.ret (.bool true) h' none) := by
 rw [Tryz.params22] at h
 rcases h with _ | ⟨k1, _ | _⟩
 obtain ⟨sa, ra, cx, cy, wx, wy, st, rs, rfl, hl, hr⟩ := Sh.mach k1
 rw [ag51]
 exact ⟨dX c22, rfl, c22_sound hT, (T22 sa ra cx cy wx wy st rs hl hr).gives⟩
theorem drillPrints_lifted (os : Os) (started : os.Started) (H : Type) (enc : TypeId × Value → H) :
  ReturnsInHanded {} Tryz.checked os 22 .any (fun w args => (Rows.drillPrintsSpec.pre enc Tryz.prog Tryz.f22 Rows.drillPrintsRow.domain false w args ∧ laidMetH Tryz.prog laidL5 w) ∧ sizedMet enc Tryz.prog Tryz.f22 (OpenSpec.ofChange Rows.drillPrintsSpec) false w args)
   (Rows.drillPrintsSpec.post enc Tryz.prog Tryz.f22 false true false false) := by
 refine returnsInHanded_of_change_and (C := Tryz.checked) (X := fun w _ => laidMetH Tryz.prog laidL5 w) (fun _ _ _ hh h => h.of_heap hh) own started (by kernel_rfl) Tryz.func22
  (ChangeSpec.witness_shaped (enc := enc) (C := Tryz.checked) (os := os) (X := fun w _ => laidMetH Tryz.prog laidL5 w) false (World.laidAll Tryz.prog os laidL5) #[.agg #[.slice none 0 0, .int .i64 0, .int .i64 0, .int .i64 0, .int .i64 0, .int .i64 0, .int .i64 0, .int .i64 0, .int .i64 0, .slice none 0 0]] 8 (World.laidAll_os _ _ _)
   (World.shaped_of_ZipB (by kernel_rfl) (by kernel_rfl)) (by kernel_rfl) (by kernel_rfl) (by kernel_rfl)
   (by rw [MakeChecks.laidMetH_plain _ _ _ (by kernel_rfl)]; exact laidMet_laidAll _ (by kernel_rfl) (by kernel_rfl))) ?_
 intro W base args ds gs before hval hW _ _ hL _
 exact lawHolds Tryz.func22 (by kernel_rfl) rfl (fun ds hd => by
  match ds, hd with
  | [d1], _ => rfl) (by rw [Tryz.params22]; intro t ht; simp at ht; rcases ht with rfl <;> kernel_rfl) (by rw [Tryz.params22]; intro t ht; simp at ht; rcases ht with rfl <;> exact ⟨by kernel_rfl, of_decide_eq_true (by kernel_rfl)⟩)
  (fun hT avs h => law22 hT avs h) W base args ds gs before hval hW (laidSub hL)
theorem in22 : (Rows.drillPrintsRow.inPlace == Tryz.prog.inPlace 22) = true := by kernel_rfl
theorem unf22 : (Rows.drillPrintsRow.unfollowed == Tryz.prog.unfollowed 22) = true := by kernel_rfl
theorem rec22 : (Rows.drillPrintsRow.recurses == Tryz.prog.recurses 22) = true := by kernel_rfl
theorem nam22 : (Rows.drillPrintsRow.named == Tryz.prog.varsNamed 22) = true := by kernel_rfl
theorem closed22 : joinedFacts Tryz.prog 22 Tryz.f22 Rows.drillPrintsSpec Rows.drillPrintsRow = true := by
 unfold joinedFacts
 rw [enter_ok, lifts_ok, make_ok]
 repeat' (with_reducible apply and_mk)
 all_goals (first | with_reducible exact laidOut | with_reducible exact rowed | with_reducible exact in22 | with_reducible exact unf22 | with_reducible exact rec22 | with_reducible exact nam22 | kernel_rfl)
theorem drillPrints_holds : Rows.DrillPrintsSaid :=
 OpenClaim.holds_of_wide 22 Tryz.f22 rfl rfl rfl rfl rfl rfl rfl ⟨rfl, rfl, rfl, rfl, rfl⟩ rfl rfl rfl rfl rfl (by kernel_rfl) Tryz.func22 closed22
  (of_decide_eq_true (by kernel_rfl)) (by unfold Func.isWrapper; rw [if_neg (of_decide_eq_false (by kernel_rfl))]; exact ⟨rfl, rfl⟩)
  (fun os started H enc _ => drillPrints_lifted os started H enc)
theorem goes22 : false = Rows.drillPrintsRow.goesBy Tryz.prog := by kernel_rfl
theorem drillPrints_card : Rows.DrillPrintsCardSaid :=
 Claim7.holds_tied_plain_at .later [] [.data, .data, .data, .data, .pinned] true (true, "b61a08fa8ce36e10ae208529fc07d9da226449fa0c1a03ee5c8317728ea357ba") true drillPrints_holds (fun _ h => by cases h) (by kernel_rfl) (fun _ h => by cases h) drillPrints_row_tie rfl ⟨rfl, rfl⟩ main_ok rfl
  (fun f fn hf hfn => by
   obtain rfl : f = 22 := Option.some.inj ((show Tryz.prog.funcNamed "nacre/nacrelaw02.DrillPrints" = some 22 by kernel_rfl).symm.trans hf) |>.symm
   obtain rfl : fn = Tryz.f22 := (Option.some.inj (Tryz.func22.symm.trans hfn)).symm
   exact ⟨looks_ok, fun j t ht => by
    rw [Tryz.params22] at ht
    have hm : t ∈ [51] := by simpa using Array.mem_of_getElem? ht
    have hall : ([51].all fun u => !Tryz.prog.wantsStandIn u) = true := by kernel_rfl
    exact (show Tryz.prog.wantsStandIn t = false by simpa using List.all_eq_true.1 hall t hm)⟩)
  goes22
end Go.Proofs.YtlhcjccaimmhgaaGreatDoor
namespace Go.AM
open Go Go.Proofs
variable [Keep]
theorem ag9 : isAggT Tryz.prog 9 = false := by simp [isAggT, Tryz.underlying9]
theorem Sh.txt {n : Nat} {xs : List AV} (h : Sh Tryz.prog (n + 1) 9 xs) : ∃ s, xs = [.str s] := by
 unfold Sh at h
 rw [Tryz.underlying9] at h
 obtain ⟨s, h, _⟩ := h
 exact ⟨s, h⟩
end Go.AM
namespace Go.AM
open Go Go.Proofs
variable [Keep]
theorem c23_sound (hT : TabK Tryz.prog) : Sound (dX c23) := dX_sound (fun f g h => by
 unfold c23 at h
 split at h
 ·cases h; exact F71
 ·cases h; exact F82 hT
 ·cases h; exact F83 hT
 ·cases h; exact F85
 ·cases h; exact F86 hT
 ·exact (c25_sound hT).intr f g h)
end Go.AM
namespace Go.Proofs.YtlhcjccaimmhgaaGreatDoor
open Go Go.AM Go.ChangeShapes Go.WideShapes Go.ChangeAt Go.RowKit
theorem law23 [Keep] (hT : TabK Tryz.prog) (avs : List AV) (h : ArgsOk Tryz.prog Tryz.f23.params.toList avs) : ∃ X, X.P = Tryz.prog ∧ Sound X ∧ ∃ h', Cl X 23 avs emptyHp (.ret (.bool true) h' none) := by
 rw [Tryz.params23] at h
 rcases h with _ | ⟨k1, _ | _⟩
 obtain ⟨s, rfl⟩ := Sh.txt k1
 rw [ag9]
 exact ⟨dX c23, rfl, c23_sound hT, (T23 s).gives⟩
theorem drillReads_lifted (os : Os) (started : os.Started) (H : Type) (enc : TypeId × Value → H) :
  ReturnsInHanded {} Tryz.checked os 23 .any (fun w args => (Rows.drillReadsSpec.pre enc Tryz.prog Tryz.f23 Rows.drillReadsRow.domain false w args ∧ laidMetH Tryz.prog laidL5 w) ∧ sizedMet enc Tryz.prog Tryz.f23 (OpenSpec.ofChange Rows.drillReadsSpec) false w args)
   (Rows.drillReadsSpec.post enc Tryz.prog Tryz.f23 false true false false) := by
 refine returnsInHanded_of_change_and (C := Tryz.checked) (X := fun w _ => laidMetH Tryz.prog laidL5 w) (fun _ _ _ hh h => h.of_heap hh) own started (by kernel_rfl) Tryz.func23
  (ChangeSpec.witness_shaped (enc := enc) (C := Tryz.checked) (os := os) (X := fun w _ => laidMetH Tryz.prog laidL5 w) false (World.laidAll Tryz.prog os laidL5) #[.string ⟨#[]⟩] 8 (World.laidAll_os _ _ _)
   (World.shaped_of_ZipB (by kernel_rfl) (by kernel_rfl)) (by kernel_rfl) (by kernel_rfl) (by kernel_rfl)
   (by rw [MakeChecks.laidMetH_plain _ _ _ (by kernel_rfl)]; exact laidMet_laidAll _ (by kernel_rfl) (by kernel_rfl))) ?_
 intro W base args ds gs before hval hW _ _ hL _
 exact lawHolds Tryz.func23 (by kernel_rfl) rfl (fun ds hd => by
  match ds, hd with
  | [d1], _ => rfl) (by rw [Tryz.params23]; intro t ht; simp at ht; rcases ht with rfl <;> kernel_rfl) (by rw [Tryz.params23]; intro t ht; simp at ht; rcases ht with rfl <;> exact ⟨by kernel_rfl, of_decide_eq_true (by kernel_rfl)⟩)
  (fun hT avs h => law23 hT avs h) W base args ds gs before hval hW (laidSub hL)
theorem in23 : (Rows.drillReadsRow.inPlace == Tryz.prog.inPlace 23) = true := by kernel_rfl
theorem unf23 : (Rows.drillReadsRow.unfollowed == Tryz.prog.unfollowed 23) = true := by kernel_rfl
theorem rec23 : (Rows.drillReadsRow.recurses == Tryz.prog.recurses 23) = true := by kernel_rfl
theorem nam23 : (Rows.drillReadsRow.named == Tryz.prog.varsNamed 23) = true := by kernel_rfl
theorem closed23 : joinedFacts Tryz.prog 23 Tryz.f23 Rows.drillReadsSpec Rows.drillReadsRow = true := by
 unfold joinedFacts
 rw [enter_ok, lifts_ok, make_ok]
 repeat' (with_reducible apply and_mk)
 all_goals (first | with_reducible exact laidOut | with_reducible exact rowed | with_reducible exact in23 | with_reducible exact unf23 | with_reducible exact rec23 | with_reducible exact nam23 | kernel_rfl)
theorem drillReads_holds : Rows.DrillReadsSaid :=
 OpenClaim.holds_of_wide 23 Tryz.f23 rfl rfl rfl rfl rfl rfl rfl ⟨rfl, rfl, rfl, rfl, rfl⟩ rfl rfl rfl rfl rfl (by kernel_rfl) Tryz.func23 closed23
  (of_decide_eq_true (by kernel_rfl)) (by unfold Func.isWrapper; rw [if_neg (of_decide_eq_false (by kernel_rfl))]; exact ⟨rfl, rfl⟩)
  (fun os started H enc _ => drillReads_lifted os started H enc)
theorem goes23 : false = Rows.drillReadsRow.goesBy Tryz.prog := by kernel_rfl
theorem drillReads_card : Rows.DrillReadsCardSaid :=
 Claim7.holds_tied_plain_at .later [] [.data, .data, .data, .data, .pinned] true (true, "b61a08fa8ce36e10ae208529fc07d9da226449fa0c1a03ee5c8317728ea357ba") true drillReads_holds (fun _ h => by cases h) (by kernel_rfl) (fun _ h => by cases h) drillReads_row_tie rfl ⟨rfl, rfl⟩ main_ok rfl
  (fun f fn hf hfn => by
   obtain rfl : f = 23 := Option.some.inj ((show Tryz.prog.funcNamed "nacre/nacrelaw02.DrillReads" = some 23 by kernel_rfl).symm.trans hf) |>.symm
   obtain rfl : fn = Tryz.f23 := (Option.some.inj (Tryz.func23.symm.trans hfn)).symm
   exact ⟨looks_ok, fun j t ht => by
    rw [Tryz.params23] at ht
    have hm : t ∈ [9] := by simpa using Array.mem_of_getElem? ht
    have hall : ([9].all fun u => !Tryz.prog.wantsStandIn u) = true := by kernel_rfl
    exact (show Tryz.prog.wantsStandIn t = false by simpa using List.all_eq_true.1 hall t hm)⟩)
  goes23
end Go.Proofs.YtlhcjccaimmhgaaGreatDoor
namespace Go.AM
open Go Go.Proofs
variable [Keep]
theorem c24_sound (hT : TabK Tryz.prog) : Sound (dXW c24) := dXW_sound (fun f g h => by
 unfold c24 at h
 split at h
 ·cases h; exact F38
 ·cases h; exact F71
 ·cases h; exact F82 hT
 ·cases h; exact F83 hT
 ·cases h; exact F85
 ·exact (c25_sound hT).intr f g h)
end Go.AM
namespace Go.Proofs.YtlhcjccaimmhgaaGreatDoor
open Go Go.AM Go.ChangeShapes Go.WideShapes Go.ChangeAt Go.RowKit
theorem law24 [Keep] (hT : TabK Tryz.prog) (avs : List AV) (h : ArgsOk Tryz.prog Tryz.f24.params.toList avs) : ∃ X, X.P = Tryz.prog ∧ Sound X ∧ ∃ h', Cl X 24 avs emptyHp (.ret (.bool true) h' none) := by
 rw [Tryz.params24] at h
 rcases h with _ | ⟨k1, _ | ⟨k2, _ | ⟨k3, _ | _⟩⟩⟩
 obtain ⟨sa, ra, cx, cy, wx, wy, st, rs, rfl, hl, hr⟩ := Sh.mach k1
 obtain ⟨n, rfl⟩ := Sh.i64 k2
 obtain ⟨d, rfl⟩ := Sh.i64 k3
 rw [ag51, ag3]
 exact ⟨dXW c24, rfl, c24_sound hT, (T24 sa ra n d cx cy wx wy st rs hl hr).gives⟩
theorem drillSpoilt_lifted (os : Os) (started : os.Started) (H : Type) (enc : TypeId × Value → H) :
  ReturnsInHanded {} Tryz.checked os 24 .any (fun w args => (Rows.drillSpoiltSpec.pre enc Tryz.prog Tryz.f24 Rows.drillSpoiltRow.domain false w args ∧ laidMetH Tryz.prog laidL5 w) ∧ sizedMet enc Tryz.prog Tryz.f24 (OpenSpec.ofChange Rows.drillSpoiltSpec) false w args)
   (Rows.drillSpoiltSpec.post enc Tryz.prog Tryz.f24 false true false false) := by
 refine returnsInHanded_of_change_and (C := Tryz.checked) (X := fun w _ => laidMetH Tryz.prog laidL5 w) (fun _ _ _ hh h => h.of_heap hh) own started (by kernel_rfl) Tryz.func24
  (ChangeSpec.witness_shaped (enc := enc) (C := Tryz.checked) (os := os) (X := fun w _ => laidMetH Tryz.prog laidL5 w) false (World.laidAll Tryz.prog os laidL5) #[.agg #[.slice none 0 0, .int .i64 0, .int .i64 0, .int .i64 0, .int .i64 0, .int .i64 0, .int .i64 0, .int .i64 0, .int .i64 0, .slice none 0 0], .int .i64 0, .int .i64 0] 8 (World.laidAll_os _ _ _)
   (World.shaped_of_ZipB (by kernel_rfl) (by kernel_rfl)) (by kernel_rfl) (by kernel_rfl) (by kernel_rfl)
   (by rw [MakeChecks.laidMetH_plain _ _ _ (by kernel_rfl)]; exact laidMet_laidAll _ (by kernel_rfl) (by kernel_rfl))) ?_
 intro W base args ds gs before hval hW _ _ hL _
 exact lawHolds Tryz.func24 (by kernel_rfl) rfl (fun ds hd => by
  match ds, hd with
  | [d1, d2, d3], _ => rfl) (by rw [Tryz.params24]; intro t ht; simp at ht; rcases ht with rfl | rfl | rfl <;> kernel_rfl) (by rw [Tryz.params24]; intro t ht; simp at ht; rcases ht with rfl | rfl | rfl <;> exact ⟨by kernel_rfl, of_decide_eq_true (by kernel_rfl)⟩)
  (fun hT avs h => law24 hT avs h) W base args ds gs before hval hW (laidSub hL)
theorem in24 : (Rows.drillSpoiltRow.inPlace == Tryz.prog.inPlace 24) = true := by kernel_rfl
theorem unf24 : (Rows.drillSpoiltRow.unfollowed == Tryz.prog.unfollowed 24) = true := by kernel_rfl
theorem rec24 : (Rows.drillSpoiltRow.recurses == Tryz.prog.recurses 24) = true := by kernel_rfl
theorem nam24 : (Rows.drillSpoiltRow.named == Tryz.prog.varsNamed 24) = true := by kernel_rfl
theorem closed24 : joinedFacts Tryz.prog 24 Tryz.f24 Rows.drillSpoiltSpec Rows.drillSpoiltRow = true := by
 unfold joinedFacts
 rw [enter_ok, lifts_ok, make_ok]
 repeat' (with_reducible apply and_mk)
 all_goals (first | with_reducible exact laidOut | with_reducible exact rowed | with_reducible exact in24 | with_reducible exact unf24 | with_reducible exact rec24 | with_reducible exact nam24 | kernel_rfl)
theorem drillSpoilt_holds : Rows.DrillSpoiltSaid :=
 OpenClaim.holds_of_wide 24 Tryz.f24 rfl rfl rfl rfl rfl rfl rfl ⟨rfl, rfl, rfl, rfl, rfl⟩ rfl rfl rfl rfl rfl (by kernel_rfl) Tryz.func24 closed24
  (of_decide_eq_true (by kernel_rfl)) (by unfold Func.isWrapper; rw [if_neg (of_decide_eq_false (by kernel_rfl))]; exact ⟨rfl, rfl⟩)
  (fun os started H enc _ => drillSpoilt_lifted os started H enc)
theorem goes24 : false = Rows.drillSpoiltRow.goesBy Tryz.prog := by kernel_rfl
theorem drillSpoilt_card : Rows.DrillSpoiltCardSaid :=
 Claim7.holds_tied_plain_at .later [] [.data, .data, .data, .data, .pinned] true (true, "b61a08fa8ce36e10ae208529fc07d9da226449fa0c1a03ee5c8317728ea357ba") true drillSpoilt_holds (fun _ h => by cases h) (by kernel_rfl) (fun _ h => by cases h) drillSpoilt_row_tie rfl ⟨rfl, rfl⟩ main_ok rfl
  (fun f fn hf hfn => by
   obtain rfl : f = 24 := Option.some.inj ((show Tryz.prog.funcNamed "nacre/nacrelaw02.DrillSpoilt" = some 24 by kernel_rfl).symm.trans hf) |>.symm
   obtain rfl : fn = Tryz.f24 := (Option.some.inj (Tryz.func24.symm.trans hfn)).symm
   exact ⟨looks_ok, fun j t ht => by
    rw [Tryz.params24] at ht
    have hm : t ∈ [51, 3, 3] := by simpa using Array.mem_of_getElem? ht
    have hall : ([51, 3, 3].all fun u => !Tryz.prog.wantsStandIn u) = true := by kernel_rfl
    exact (show Tryz.prog.wantsStandIn t = false by simpa using List.all_eq_true.1 hall t hm)⟩)
  goes24
end Go.Proofs.YtlhcjccaimmhgaaGreatDoor
