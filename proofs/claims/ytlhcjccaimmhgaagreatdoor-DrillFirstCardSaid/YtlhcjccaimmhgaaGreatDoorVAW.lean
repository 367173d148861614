/-
  DrillFirst: if in some truth each button agrees with a blank of its own, blanks are returned that do not come after; each is among those with which its button can agree, and no two are the same. No condition but the row's own: the tables of Go's library that it lists hold what the program's text lays there.
-/
import Derived.Test.YtlhcjccaimmhgaaGreatDoorVXRS
import Derived.Test.YtlhcjccaimmhgaaGreatDoorVXR63
import Derived.Test.YtlhcjccaimmhgaaGreatDoorVXR50
import Derived.Test.YtlhcjccaimmhgaaGreatDoorVXR55
import Derived.Test.YtlhcjccaimmhgaaGreatDoorVXR57
import Derived.Test.YtlhcjccaimmhgaaGreatDoorVAI
import Derived.Test.YtlhcjccaimmhgaaGreatDoorVAK
import Derived.Test.YtlhcjccaimmhgaaGreatDoorVAM
import Derived.Test.YtlhcjccaimmhgaaGreatDoorVAU
import Derived.Test.YtlhcjccaimmhgaaGreatDoorVXLG
import Derived.Test.YtlhcjccaimmhgaaGreatDoorVAV
import Derived.Test.YtlhcjccaimmhgaaGreatDoorCards
set_option maxRecDepth 1000000
set_option linter.unusedSimpArgs false
set_option linter.unusedVariables false
set_option linter.unusedSectionVars false
namespace Go.AM
open Go Go.Proofs
def t34 : List (List AV × AV) := [(a34_0, v34_0)]
theorem mOne [Keep] (hT : TabK Tryz.prog) {f : Nat} {a : List AV} {v : AV} (h : retIs (callF (dX cZ) (ev (dX cZ) 300) f a emptyHp) v = true) (hp : v.pur = true) : IntrFn Tryz.prog f (pureFn (memo [(a, v)])) :=
 memo_intr (X := dX cZ) (cZ_sound hT) (by simp [hp]) (fun e he => by
  rcases List.mem_singleton.1 he with rfl
  exact ⟨300, h⟩)
theorem M34 [Keep] (hT : TabK Tryz.prog) : IntrFn Tryz.prog 34 (pureFn (memo t34)) := mOne hT run34_0 rfl
def t39 : List (List AV × AV) := [(a39_0, v39_0)]
theorem M39 [Keep] (hT : TabK Tryz.prog) : IntrFn Tryz.prog 39 (pureFn (memo t39)) := mOne hT run39_0 rfl
def t43 : List (List AV × AV) := [(a43_0, v43_0)]
theorem M43 [Keep] (hT : TabK Tryz.prog) : IntrFn Tryz.prog 43 (pureFn (memo t43)) := mOne hT run43_0 rfl
def t46 : List (List AV × AV) := [(a46_0, v46_0)]
theorem M46 [Keep] (hT : TabK Tryz.prog) : IntrFn Tryz.prog 46 (pureFn (memo t46)) := mOne hT run46_0 rfl
theorem cZ_soundR [Keep] (hT : TabK Tryz.prog) : Sound (dXR cZ) := dXR_sound (cZ_sound hT).intr
def t63 : List (List AV × AV) := [(a63_0, v63_0)]
theorem M63 [Keep] (hT : TabK Tryz.prog) : IntrFn Tryz.prog 63 (pureFn (memo t63)) := by
 refine memo_intr (X := dXR cZ) (cZ_soundR hT) rfl ?_
 intro e he
 simp only [t63, List.mem_cons, List.not_mem_nil, or_false] at he
 subst he
 ·exact ⟨300, run63_0⟩
def t50 : List (List AV × AV) := [(a50_0, v50_0)]
theorem M50 [Keep] (hT : TabK Tryz.prog) : IntrFn Tryz.prog 50 (pureFn (memo t50)) := mOne hT run50_0 rfl
def t55 : List (List AV × AV) := [(a55_0, v55_0)]
theorem M55 [Keep] (hT : TabK Tryz.prog) : IntrFn Tryz.prog 55 (pureFn (memo t55)) := mOne hT run55_0 rfl
def t57 : List (List AV × AV) := [(a57_0, v57_0)]
theorem M57 [Keep] (hT : TabK Tryz.prog) : IntrFn Tryz.prog 57 (pureFn (memo t57)) := mOne hT run57_0 rfl
def t82 : List (List AV × AV) := [(a82_0, v82_0)]
theorem M82 [Keep] (hT : TabK Tryz.prog) : IntrFn Tryz.prog 82 (pureFn (memo t82)) := mOne hT run82_0 rfl
def cY : Itr
 | 34 => some (pureFn (memo t34))
 | 39 => some (pureFn (memo t39))
 | 43 => some (pureFn (memo t43))
 | 46 => some (pureFn (memo t46))
 | 63 => some (pureFn (memo t63))
 | 50 => some (pureFn (memo t50))
 | 55 => some (pureFn (memo t55))
 | 57 => some (pureFn (memo t57))
 | 82 => some (pureFn (memo t82))
 | f => cZ f
theorem cY_sound [Keep] (hT : TabK Tryz.prog) : Sound (dX cY) := dX_sound (fun f g h => by
 unfold cY at h
 split at h
 ·cases h; exact M34 hT
 ·cases h; exact M39 hT
 ·cases h; exact M43 hT
 ·cases h; exact M46 hT
 ·cases h; exact M63 hT
 ·cases h; exact M50 hT
 ·cases h; exact M55 hT
 ·cases h; exact M57 hT
 ·cases h; exact M82 hT
 ·exact (cZ_sound hT).intr f g h)
end Go.AM
namespace Go.AM
open Go Go.Proofs
theorem known_run [Keep] : isTrue (callF (dX cY) (ev (dX cY) 300) 25 [] emptyHp) = true := by kernel_rfl
theorem F25 [Keep] (hT : TabK Tryz.prog) : IntrFn Tryz.prog 25 (pureFn sp25) := by
 refine pure_intr1 (X := dX cY) (cY_sound hT) ?_ ?_
 ·intro args v e
  unfold sp25 at e
  split at e
  ·cases e; rfl
  ·cases e
 ·intro args v e
  unfold sp25 at e
  split at e
  ·cases e
   obtain ⟨h', e⟩ := isTrue_ret known_run
   exact ⟨h', 300, e⟩
  ·cases e
end Go.AM
set_option maxRecDepth 100000
namespace Go.AM
open Go Go.Proofs
variable [Keep]
theorem c25_sound (hT : TabK Tryz.prog) : Sound (dX (c25 cK)) := dX_sound (fun f g h => by
 unfold c25 at h
 split at h
 ·cases h; exact F25 hT
 ·exact (cK_sound hT).intr f g h)
theorem ClR.gives {X : Ctx} {f : FuncId} {args : List AV} {h : Heap} {v : AV} (c : ClR X f args h (isRet v)) : ∃ h', Cl X f args h (.ret v h' none) := by
 unfold ClR at c
 obtain ⟨r, ⟨n, hn⟩, q⟩ := c
 cases r with
 | ret u h' up =>
  cases up with
  | none => rw [isRet_ret] at q; subst q; exact ⟨h', n, hn⟩
  | some p => exact absurd q (by simp [isRet])
 | pan u h' up => exact absurd q (by simp [isRet])
 | fail => exact absurd q (by simp [isRet])
theorem Sh.i64 {n : Nat} {xs : List AV} (h : Sh Tryz.prog (n + 1) 3 xs) : ∃ i, xs = [.int .i64 i] := by
 obtain ⟨i, h, _⟩ := Sh.int Tryz.underlying3 h
 exact ⟨i, h⟩
theorem ag3 : isAggT Tryz.prog 3 = false := by simp [isAggT, Tryz.underlying3]
theorem ag38 : isAggT Tryz.prog 38 = true := by simp [isAggT, Tryz.underlying38]
theorem Sh.pt {n : Nat} {xs : List AV} (h : Sh Tryz.prog (n + 2) 38 xs) : ∃ p : Pt, xs = [.int .i64 p.x, .int .i64 p.y] := by
 have := Sh.struct Tryz.underlying38 h
 obtain ⟨x, y, rfl, h1, x2, y2, rfl, h2, rfl⟩ := this
 obtain ⟨a, rfl⟩ := Sh.i64 h1
 obtain ⟨b, rfl⟩ := Sh.i64 h2
 exact ⟨⟨a, b⟩, rfl⟩
theorem Sh.pts {n : Nat} {xs : List AV} (h : Sh Tryz.prog (n + 3) 22 xs) : ∃ (a : AV) (l : List Pt), xs = [a] /\ isSl a (l.map ptC.enc) :=
 Sh.slice ptC Tryz.underlying22 (fun xs h => by
  obtain ⟨p, rfl⟩ := Sh.pt h
  exact ⟨p, by rw [ag38]; rfl⟩) h
end Go.AM
namespace Go.AM
open Go Go.Proofs
variable [Keep]
theorem ag51 : isAggT Tryz.prog 51 = true := by simp [isAggT, Tryz.underlying51]
theorem ag95 : isAggT Tryz.prog 95 = true := by simp [isAggT, Tryz.underlying95]
theorem Sh.sp {n : Nat} {xs : List AV} (h : Sh Tryz.prog (n + 2) 48 xs) : ∃ p : Sp, xs = [.int .i64 p.lo, .int .i64 p.hi] := by
 obtain ⟨x, y, rfl, h1, x2, y2, rfl, h2, rfl⟩ := Sh.struct Tryz.underlying48 h
 obtain ⟨a, rfl⟩ := Sh.i64 h1
 obtain ⟨b, rfl⟩ := Sh.i64 h2
 exact ⟨⟨a, b⟩, rfl⟩
theorem Sh.rdg {n : Nat} {xs : List AV} (h : Sh Tryz.prog (n + 2) 95 xs) : ∃ p : Rdg, xs = [.int .i64 p.b, .int .i64 p.x, .int .i64 p.y, .int .i64 p.err] := by
 obtain ⟨x, y, rfl, h1, x2, y2, rfl, h2, x3, y3, rfl, h3, x4, y4, rfl, h4, rfl⟩ := Sh.struct Tryz.underlying95 h
 obtain ⟨a, rfl⟩ := Sh.i64 h1
 obtain ⟨b, rfl⟩ := Sh.i64 h2
 obtain ⟨c, rfl⟩ := Sh.i64 h3
 obtain ⟨d, rfl⟩ := Sh.i64 h4
 exact ⟨⟨a, b, c, d⟩, rfl⟩
theorem Sh.rdgs {n : Nat} {xs : List AV} (h : Sh Tryz.prog (n + 3) 49 xs) : ∃ (a : AV) (l : List Rdg), xs = [a] /\ isSl a (l.map rdgC.enc) :=
 Sh.slice rdgC Tryz.underlying49 (fun xs h => by
  obtain ⟨p, rfl⟩ := Sh.rdg h
  exact ⟨p, by rw [ag95]; rfl⟩) h
theorem Sh.mach {n : Nat} {xs : List AV} (h : Sh Tryz.prog (n + 4) 51 xs) : ∃ (sa ra : AV) (cx cy wx wy : Sp) (st : List Pt) (rs : List Rdg),
  xs = [sa, .int .i64 cx.lo, .int .i64 cx.hi, .int .i64 cy.lo, .int .i64 cy.hi, .int .i64 wx.lo, .int .i64 wx.hi, .int .i64 wy.lo, .int .i64 wy.hi, ra] /\ isSl sa (st.map ptC.enc) /\ isSl ra (rs.map rdgC.enc) := by
 obtain ⟨x1, y1, rfl, h1, x2, y2, rfl, h2, x3, y3, rfl, h3, x4, y4, rfl, h4, x5, y5, rfl, h5, x6, y6, rfl, h6, rfl⟩ := Sh.struct Tryz.underlying51 h
 obtain ⟨sa, st, rfl, hs⟩ := Sh.pts h1
 obtain ⟨cx, rfl⟩ := Sh.sp h2
 obtain ⟨cy, rfl⟩ := Sh.sp h3
 obtain ⟨wx, rfl⟩ := Sh.sp h4
 obtain ⟨wy, rfl⟩ := Sh.sp h5
 obtain ⟨ra, rs, rfl, hr⟩ := Sh.rdgs h6
 exact ⟨sa, ra, cx, cy, wx, wy, st, rs, rfl, hs, hr⟩
theorem ag39 : isAggT Tryz.prog 39 = false := by simp [isAggT, Tryz.underlying39]
theorem ag109 : isAggT Tryz.prog 109 = true := by simp [isAggT, Tryz.underlying109]
theorem Sh.ints {n : Nat} {xs : List AV} (h : Sh Tryz.prog (n + 2) 39 xs) : ∃ (a : AV) (l : List Int), xs = [a] /\ isSl a (l.map intC.enc) :=
 Sh.slice intC Tryz.underlying39 (fun xs h => by
  obtain ⟨i, rfl⟩ := Sh.i64 h
  exact ⟨i, by rw [ag3]; rfl⟩) h
theorem Sh.truth {n : Nat} {xs : List AV} (h : Sh Tryz.prog (n + 3) 109 xs) : ∃ (xa ya : AV) (l r : List Int), xs = [xa, ya] /\ isSl xa (l.map intC.enc) /\ isSl ya (r.map intC.enc) := by
 obtain ⟨x1, y1, rfl, h1, x2, y2, rfl, h2, rfl⟩ := Sh.struct Tryz.underlying109 h
 obtain ⟨xa, l, rfl, hl⟩ := Sh.ints h1
 obtain ⟨ya, r, rfl, hr⟩ := Sh.ints h2
 exact ⟨xa, ya, l, r, rfl, hl, hr⟩
end Go.AM
namespace Go.AM
open Go Go.Proofs
variable [Keep]
theorem ag77 : isAggT Tryz.prog 77 = true := by simp [isAggT, Tryz.underlying77]
theorem ag70 : isAggT Tryz.prog 70 = false := by simp [isAggT, Tryz.underlying70]
theorem Sh.but {n : Nat} {xs : List AV} (h : Sh Tryz.prog (n + 4) 77 xs) : ∃ (a : AV) (l : List Pt) (err : Int), xs = [a, .int .i64 err] /\ isSl a (l.map ptC.enc) := by
 obtain ⟨x1, y1, rfl, h1, x2, y2, rfl, h2, rfl⟩ := Sh.struct Tryz.underlying77 h
 obtain ⟨a, l, rfl, hl⟩ := Sh.pts h1
 obtain ⟨off, rfl⟩ := Sh.i64 h2
 exact ⟨a, l, off, rfl, hl⟩
end Go.AM
namespace Go.AM
open Go Go.Proofs
variable [Keep]
open Classical in
noncomputable def goodBt : Cd {m : BA // m.good} where
 enc m := butC.enc m.1
 dec a := match butC.dec a with | some m => if h : m.good then some ⟨m, h⟩ else none | none => none
 de m := by simp [butC.de, m.2]
 ed a x h := by
  split at h
  ·rename_i m hm
   split at h
   ·cases h; exact butC.ed _ _ hm
   ·cases h
  ·cases h
 pur m := butC.pur _
theorem Sh.buts {n : Nat} {xs : List AV} (h : Sh Tryz.prog (n + 5) 70 xs) : ∃ (a : AV) (l : List BA), xs = [a] /\ isSl a (l.map butC.enc) /\ ∀ m ∈ l, m.good := by
 obtain ⟨a, l, e, hl⟩ := Sh.slice goodBt Tryz.underlying70 (fun xs h => by
  obtain ⟨ha, hs, err, rfl, hh⟩ := Sh.but h
  exact ⟨⟨⟨ha, err, hh.pur (enc_pur ptC hs)⟩, hs, hh⟩, by rw [ag77]; rfl⟩) h
 refine ⟨a, l.map (·.1), e, ?_, fun m hm => ?_⟩
 ·rw [List.map_map]; exact hl
 ·obtain ⟨x, _, rfl⟩ := List.mem_map.1 hm
  exact x.2
end Go.AM
namespace Go.AM
open Go Go.Proofs
variable [Keep]
theorem c17_sound (hT : TabK Tryz.prog) : Sound (dX c17) := dX_sound (fun f g h => by
 unfold c17 at h
 split at h
 ·cases h; exact F37
 ·cases h; exact F38
 ·cases h; exact F41
 ·cases h; exact F50
 ·cases h; exact F51
 ·cases h; exact F54
 ·cases h; exact F63
 ·cases h; exact F70
 ·cases h; exact F71
 ·cases h; exact F72
 ·cases h; exact F73
 ·cases h; exact F74
 ·cases h; exact F75
 ·cases h; exact F76
 ·exact (c25_sound hT).intr f g h)
end Go.AM
namespace Go.Proofs.YtlhcjccaimmhgaaGreatDoor
open Go Go.AM Go.ChangeShapes Go.WideShapes Go.ChangeAt Go.RowKit
theorem law17 [Keep] (hT : TabK Tryz.prog) (avs : List AV) (h : ArgsOk Tryz.prog Tryz.f17.params.toList avs) : ∃ X, X.P = Tryz.prog /\ Sound X /\ ∃ h', Cl X 17 avs emptyHp (.ret (.bool true) h' none) := by
 rw [Tryz.params17] at h
 rcases h with _ | ⟨k1, _ | ⟨k2, _ | ⟨k3, _ | ⟨k4, _ | _⟩⟩⟩⟩
 obtain ⟨sa, ra, cx, cy, wx, wy, st, rs, rfl, hl, hr⟩ := Sh.mach k1
 obtain ⟨la, l, rfl, hla, hg⟩ := Sh.buts k2
 obtain ⟨xa, ya, xs, ys, rfl, hx, hy⟩ := Sh.truth k3
 obtain ⟨ba, bs, rfl, hba⟩ := Sh.ints k4
 rw [ag51, ag70, ag109, ag39]
 exact ⟨dX c17, rfl, c17_sound hT, (T17 la sa ra xa ya ba cx cy wx wy st rs xs ys bs l hl hr hla hg hx hy hba).gives⟩
theorem drillFirst_lifted (os : Os) (started : os.Started) (H : Type) (enc : TypeId × Value -> H) :
  ReturnsInHanded {} Tryz.checked os 17 .any (fun w args => (Rows.drillFirstSpec.pre enc Tryz.prog Tryz.f17 Rows.drillFirstRow.domain false w args /\ laidMetH Tryz.prog laidL w) /\ sizedMet enc Tryz.prog Tryz.f17 (OpenSpec.ofChange Rows.drillFirstSpec) false w args)
   (Rows.drillFirstSpec.post enc Tryz.prog Tryz.f17 false true false false) := by
 refine returnsInHanded_of_change_and (C := Tryz.checked) (X := fun w _ => laidMetH Tryz.prog laidL w) (fun _ _ _ hh h => h.of_heap hh) own started (by kernel_rfl) Tryz.func17
  (ChangeSpec.witness_shaped (enc := enc) (C := Tryz.checked) (os := os) (X := fun w _ => laidMetH Tryz.prog laidL w) false (World.laidAll Tryz.prog os laidL) #[.agg #[.slice none 0 0, .int .i64 0, .int .i64 0, .int .i64 0, .int .i64 0, .int .i64 0, .int .i64 0, .int .i64 0, .int .i64 0, .slice none 0 0], .slice none 0 0, .agg #[.slice none 0 0, .slice none 0 0], .slice none 0 0] 8 (World.laidAll_os _ _ _)
   (World.shaped_of_ZipB (by kernel_rfl) (by kernel_rfl)) (by kernel_rfl) (by kernel_rfl) (by kernel_rfl)
   (by rw [MakeChecks.laidMetH_plain _ _ _ (by kernel_rfl)]; exact laidMet_laidAll _ (by kernel_rfl) (by kernel_rfl))) ?_
 intro W base args ds gs before hval hW _ _ hL _
 exact lawHolds Tryz.func17 (by kernel_rfl) rfl (fun ds hd => by
  match ds, hd with
  | [d1, d2, d3, d4], _ => rfl) (by rw [Tryz.params17]; intro t ht; simp at ht; rcases ht with rfl | rfl | rfl | rfl <;> kernel_rfl) (by rw [Tryz.params17]; intro t ht; simp at ht; rcases ht with rfl | rfl | rfl | rfl <;> exact ⟨by kernel_rfl, of_decide_eq_true (by kernel_rfl)⟩)
  (fun hT avs h => law17 hT avs h) W base args ds gs before hval hW hL
theorem in17 : (Rows.drillFirstRow.inPlace == Tryz.prog.inPlace 17) = true := by kernel_rfl
theorem unf17 : (Rows.drillFirstRow.unfollowed == Tryz.prog.unfollowed 17) = true := by kernel_rfl
theorem rec17 : (Rows.drillFirstRow.recurses == Tryz.prog.recurses 17) = true := by kernel_rfl
theorem nam17 : (Rows.drillFirstRow.named == Tryz.prog.varsNamed 17) = true := by kernel_rfl
theorem closed17 : joinedFacts Tryz.prog 17 Tryz.f17 Rows.drillFirstSpec Rows.drillFirstRow = true := by
 unfold joinedFacts
 rw [enter_ok, lifts_ok, make_ok]
 repeat' (with_reducible apply and_mk)
 all_goals (first | with_reducible exact laidOut | with_reducible exact rowed | with_reducible exact in17 | with_reducible exact unf17 | with_reducible exact rec17 | with_reducible exact nam17 | kernel_rfl)
theorem drillFirst_holds : Rows.DrillFirstSaid :=
 OpenClaim.holds_of_wide 17 Tryz.f17 rfl rfl rfl rfl rfl rfl rfl ⟨rfl, rfl, rfl, rfl, rfl⟩ rfl rfl rfl rfl rfl (by kernel_rfl) Tryz.func17 closed17
  (of_decide_eq_true (by kernel_rfl)) (by unfold Func.isWrapper; rw [if_neg (of_decide_eq_false (by kernel_rfl))]; exact ⟨rfl, rfl⟩)
  (fun os started H enc _ => drillFirst_lifted os started H enc)
theorem goes17 : false = Rows.drillFirstRow.goesBy Tryz.prog := by kernel_rfl
theorem drillFirst_card : Rows.DrillFirstCardSaid :=
 Claim7.holds_tied_plain_at .later [] [.data, .data, .data] true (true, "b61a08fa8ce36e10ae208529fc07d9da226449fa0c1a03ee5c8317728ea357ba") true drillFirst_holds (fun _ h => by cases h) (by kernel_rfl) (fun _ h => by cases h) drillFirst_row_tie rfl ⟨rfl, rfl⟩ main_ok rfl
  (fun f fn hf hfn => by
   obtain rfl : f = 17 := Option.some.inj ((show Tryz.prog.funcNamed "nacre/nacrelaw02.DrillFirst" = some 17 by kernel_rfl).symm.trans hf) |>.symm
   obtain rfl : fn = Tryz.f17 := (Option.some.inj (Tryz.func17.symm.trans hfn)).symm
   exact ⟨looks_ok, fun j t ht => by
    rw [Tryz.params17] at ht
    have hm : t ∈ [51, 70, 109, 39] := by simpa using Array.mem_of_getElem? ht
    have hall : ([51, 70, 109, 39].all fun u => !Tryz.prog.wantsStandIn u) = true := by kernel_rfl
    exact (show Tryz.prog.wantsStandIn t = false by simpa using List.all_eq_true.1 hall t hm)⟩)
  goes17
end Go.Proofs.YtlhcjccaimmhgaaGreatDoor
