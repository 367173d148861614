/-
  A part of the proof: contracts of functions.
-/
import Derived.Test.YtlhcjccaimmhgaaGreatDoorVAT
import Derived.Test.YtlhcjccaimmhgaaGreatDoorVAG
import Derived.Test.YtlhcjccaimmhgaaGreatDoorVAP
set_option linter.unusedSectionVars false
set_option linter.unusedVariables false
set_option linter.unusedSimpArgs false
set_option maxRecDepth 100000
namespace Go.AM
open Go Go.Proofs
variable [Keep]
attribute [local irreducible] W WO WO1 WD WQ WT thenQ blockQ endR isRet retK Cl ClR
attribute [local irreducible] isNew roundQ RdR boundsS machB boxL suitB posH clS clN tgR addU
def ddB (st : List Pt) (b : BA) : List Bx := (boxL b.err st b.holes).foldl addU []
def togV (ok poss : Bool) (o : Option (List Nat)) : AV :=
 if ok then (if poss then (match o with
  | some s => .tuple [slN (natsV s), .int .i64 0]
  | none => .tuple [.nilslice, .int .i64 5]) else .tuple [.nilslice, .int .i64 7]) else .tuple [.nilslice, .int .i64 2]
theorem togV_pur (ok poss : Bool) (o : Option (List Nat)) : (togV ok poss o).pur = true := by
 unfold togV
 cases ok
 ·rfl
 ·cases poss
  ·rfl
  ·cases o with
   | none => rfl
   | some s => simp [AV.pur, AV.purL, slN_pur (natsV_pur s)]
def togOk (m : Bool) (st : List Pt) (l : List BA) : Bool := m && inB l.length 1 3 && l.all fun b => suitB m st b.holes b.err
def sp50 : List AV -> Option AV
 | [.agg [sa, .int .i64 cxl, .int .i64 cxh, .int .i64 cyl, .int .i64 cyh, .int .i64 wxl, .int .i64 wxh, .int .i64 wyl, .int .i64 wyh, ra], la] => match slV ptC sa, slV rdgC ra, slV butC la with
  | some st, some rs, some l => if (l.all BA.ok && (!(togOk (machB st ⟨cxl, cxh⟩ ⟨cyl, cyh⟩ ⟨wxl, wxh⟩ ⟨wyl, wyh⟩ rs) st l) || decide (prodL (l.map (ddB st)) <= 16000000))) = true then
    some (togV (togOk (machB st ⟨cxl, cxh⟩ ⟨cyl, cyh⟩ ⟨wxl, wxh⟩ ⟨wyl, wyh⟩ rs) st l) (possB ⟨cxl, cxh⟩ ⟨cyl, cyh⟩ ⟨wxl, wxh⟩ ⟨wyl, wyh⟩ rs) (srchT (posH ⟨cxl, cxh⟩ ⟨cyl, cyh⟩ ⟨wxl, wxh⟩ ⟨wyl, wyh⟩ rs) (l.map (ddB st)) [] [[]])) else none
  | _, _, _ => none
 | _ => none
theorem p50 : ∀ args v, sp50 args = some v -> v.pur = true := by
 intro args v h
 unfold sp50 at h
 split at h
 ·split at h
  ·split at h
   ·cases h; exact togV_pur _ _ _
   ·cases h
  ·cases h
 ·cases h
noncomputable def cJD : Itr
 | 93 => some (pureFn sp93)
 | 96 => some (pureFn sp96)
 | 101 => some (flatFn sp101)
 | 103 => some (onHeap h103)
 | 112 => some (pureFn sp112)
 | 114 => some (flatFn sp114)
 | 116 => some (flatFn sp116)
 | 164 => some (flatFn sp164)
 | _ => none
theorem cJD_sound : Sound (dX cJD) := dX_sound (fun f g h => by
 unfold cJD at h
 split at h
 ·cases h; exact F93
 ·cases h; exact F96
 ·cases h; exact F101
 ·cases h; exact H103
 ·cases h; exact F112
 ·cases h; exact F114
 ·cases h; exact F116
 ·cases h; exact F164
 ·cases h)
def stepJ (y : Bx) (s : List Bx) : List Bx × Bool := (addU s y, true)
theorem foldJ : ∀ (l s : List Bx), foldS stepJ l s = (l.foldl addU s, true) := by
 intro l
 induction l with
 | nil => intro s; rfl
 | cons y l ih =>
  intro s
  simp only [foldS, stepJ, if_true, List.foldl_cons]
  exact ih _
theorem addU_def (out : List Bx) (x : Bx) : addU out x = if out.any (fun y => bxEq y x) then out else out ++ [x] := by unfold addU; rfl
theorem any_sym (s : List Bx) (y : Bx) : (s.any fun p => bxEq y p) = s.any fun p => bxEq p y := by
 congr 1
 funext p
 rw [Bool.eq_iff_iff, bxEq_iff, bxEq_iff]
 exact eq_comm
theorem addU_len (s : List Bx) (y : Bx) : (addU s y).length <= s.length + 1 := by
 rw [addU_def]
 split
 ·omega
 ·simp
theorem boxL_len {err : Int} {ss hs : List Pt} (h4 : ss.length <= 4) : (boxL err ss hs).length <= 192 := by
 have key : ∀ k, ((List.range k).flatMap (boxT err ss hs)).length <= 24 * k := by
  intro k
  induction k with
  | zero => simp
  | succ k ih =>
   rw [List.range_succ, List.flatMap_append, List.length_append]
   have h1 : (boxT err ss hs k).length <= 24 := by
    have h2 := List.length_filterMap_le (boxOn err ss hs k) (ordsL ss.length ss.length [])
    have h3 : (ordsL ss.length ss.length []).length <= 24 := by
     rw [ords_lev]
     exact lev_small4 h4
    exact Nat.le_trans h2 h3
   simp only [List.flatMap_cons, List.flatMap_nil, List.append_nil]
   omega
 have := key 8
 have e : boxL err ss hs = (List.range 8).flatMap (boxT err ss hs) := by unfold boxL; rfl
 rw [e]
 exact this
theorem ElemsC.putv {α : Type} {c : Cd α} {sz id : Nat} {h : Heap} {es : List AV} {ps : List (List α)} {bl : Blk} (q : ElemsC c sz h es ps) (hg : ∀ z r, h.get id ≠ some (.rw z r)) : ElemsC c sz (h.put id bl) es ps := ⟨q.1, fun i r p h1 h2 => (q.2 i r p h1 h2).putv hg⟩
theorem stR_goJ {σ : Type} {I D : σ -> Heap -> Prop} {own : Heap -> Nat -> Prop} {ex : Nat -> Prop} {h h' : Heap} {x : σ × Bool} {s : σ} (e : x = (s, true)) (q : I s h' /\ Rel own h h') : stR I D own ex h x (.ret (.bool true) h' none) := stR_go e q.1 q.2
theorem eq39v (l : List AV) : binV Tryz.prog .eql 39 true (.vslice l) .nilslice = some (.bool false) := by
 simp [binV, eqOp, eqV, isSliceT, whenB, Tryz.underlying39]
set_option maxHeartbeats 16000000 in
theorem F50 : IntrFn Tryz.prog 50 (pureFn sp50) := by
 refine pure_fn (X := dX cJD) cJD_sound p50 ?_
 intro args v h
 unfold sp50 at h
 split at h
 ·rename_i sa cxl cxh cyl cyh wxl wxh wyl wyh ra la
  split at h
  ·rename_i st rs l hl hr hb
   split at h
   ·rename_i hg
    have h := Option.some.inj h
    subst h
    simp only [Bool.and_eq_true] at hg
    obtain ⟨hok, hbound⟩ := hg
    have o2 := sl_out hl
    have o3 := sl_out hr
    have o4 := sl_out hb
    obtain ⟨n2, t2⟩ := sl_one hl
    obtain ⟨n3, t3⟩ := sl_one hr
    obtain ⟨n4, t4⟩ := sl_one hb
    have c2 : sa.cells = [sa] := (slV_is hl).1.cells
    have c3 : ra.cells = [ra] := (slV_is hr).1.cells
    have c4 : la.cells = [la] := (slV_is hb).1.cells
    have ln4 := sl_len hb
    simp only [AV.cells] at c2 c3 c4
    simp only [isTuple] at t2 t3 t4
    have k93 := fun h => K93 (X := dX cJD) rfl (l.length : Int) 1 3 h
    have k101 := fun h => K101 (X := dX cJD) rfl sa ra st rs ⟨cxl, cxh⟩ ⟨cyl, cyh⟩ ⟨wxl, wxh⟩ ⟨wyl, wyh⟩ hl hr h
    have hk := fun (hp : Heap) (mv : AV) (hmv : mv.one = true) => K103h (X := dX cJD) rfl sa ra mv ⟨cxl, cxh⟩ ⟨cyl, cyh⟩ ⟨wxl, wxh⟩ ⟨wyl, wyh⟩ rs hr n2 hmv hp
    have h102 := fun n m => C102 cJD rfl sa ra ⟨cxl, cxh⟩ ⟨cyl, cyh⟩ ⟨wxl, wxh⟩ ⟨wyl, wyh⟩ (slV_is hl).1.frz1 (slV_is hr).1.frz1 n m
    have h110 := fun (h : Heap) (hg0 : h.get 0 = some (.var [sa, .int .i64 cxl, .int .i64 cxh, .int .i64 cyl, .int .i64 cyh, .int .i64 wxl, .int .i64 wxh, .int .i64 wyl, .int .i64 wyh, ra])) => C110 cJD rfl rfl la l hb hok 111 [] [.ptr 0 0] (fun b => !suitB (machB st ⟨cxl, cxh⟩ ⟨cyl, cyh⟩ ⟨wxl, wxh⟩ ⟨wyl, wyh⟩ rs) st b.holes b.err) h (fun b hm => C111 cJD rfl rfl 0 b (List.all_eq_true.1 hok b hm) sa ra st rs ⟨cxl, cxh⟩ ⟨cyl, cyh⟩ ⟨wxl, wxh⟩ ⟨wyl, wyh⟩ hl hr h hg0)
    have hany : (l.any fun b => !suitB (machB st ⟨cxl, cxh⟩ ⟨cyl, cyh⟩ ⟨wxl, wxh⟩ ⟨wyl, wyh⟩ rs) st b.holes b.err) = !(l.all fun b => suitB (machB st ⟨cxl, cxh⟩ ⟨cyl, cyh⟩ ⟨wxl, wxh⟩ ⟨wyl, wyh⟩ rs) st b.holes b.err) := by
     rw [List.all_eq_not_any_not, Bool.not_not]
    rw [hany] at h110
    have HSM := Lib.hid (fun (hm : machB st ⟨cxl, cxh⟩ ⟨cyl, cyh⟩ ⟨wxl, wxh⟩ ⟨wyl, wyh⟩ rs = true) => mach_small hm)
    have HSU := Lib.hid (fun (b : BA) (hs : suitB (machB st ⟨cxl, cxh⟩ ⟨cyl, cyh⟩ ⟨wxl, wxh⟩ ⟨wyl, wyh⟩ rs) st b.holes b.err = true) => suit_small hs)
    have HTO := Lib.hid (show togOk (machB st ⟨cxl, cxh⟩ ⟨cyl, cyh⟩ ⟨wxl, wxh⟩ ⟨wyl, wyh⟩ rs) st l = (machB st ⟨cxl, cxh⟩ ⟨cyl, cyh⟩ ⟨wxl, wxh⟩ ⟨wyl, wyh⟩ rs && inB l.length 1 3 && l.all fun b => suitB (machB st ⟨cxl, cxh⟩ ⟨cyl, cyh⟩ ⟨wxl, wxh⟩ ⟨wyl, wyh⟩ rs) st b.holes b.err) from rfl)
    have H102 := Lib.hid h102
    have H110 := Lib.hid h110
    have HHK := Lib.hid hk
    have HL := Lib.hid hl
    have HR := Lib.hid hr
    have HB := Lib.hid hb
    have HOK := Lib.hid hok
    have HBO := Lib.hid hbound
    clear h102 h110 hk hl hr hb hok hbound hany
    refine ClR.walk (c := _) rfl Tryz.func50 rfl (by kernel_rfl) rfl isRet_fail ?_
    simp only [entryEnv, Nat.reduceAdd, emptyHp]
    generalize togOk (machB st ⟨cxl, cxh⟩ ⟨cyl, cyh⟩ ⟨wxl, wxh⟩ ⟨wyl, wyh⟩ rs) st l = tok at *
    have hcase : (machB st ⟨cxl, cxh⟩ ⟨cyl, cyh⟩ ⟨wxl, wxh⟩ ⟨wyl, wyh⟩ rs = false /\ tok = false) \/ (machB st ⟨cxl, cxh⟩ ⟨cyl, cyh⟩ ⟨wxl, wxh⟩ ⟨wyl, wyh⟩ rs = true /\ inB l.length 1 3 = false /\ tok = false) \/ (machB st ⟨cxl, cxh⟩ ⟨cyl, cyh⟩ ⟨wxl, wxh⟩ ⟨wyl, wyh⟩ rs = true /\ inB l.length 1 3 = true /\ (l.all fun b => suitB (machB st ⟨cxl, cxh⟩ ⟨cyl, cyh⟩ ⟨wxl, wxh⟩ ⟨wyl, wyh⟩ rs) st b.holes b.err) = false /\ tok = false) \/ (machB st ⟨cxl, cxh⟩ ⟨cyl, cyh⟩ ⟨wxl, wxh⟩ ⟨wyl, wyh⟩ rs = true /\ inB l.length 1 3 = true /\ (l.all fun b => suitB (machB st ⟨cxl, cxh⟩ ⟨cyl, cyh⟩ ⟨wxl, wxh⟩ ⟨wyl, wyh⟩ rs) st b.holes b.err) = true /\ tok = true) := by
     rw [HTO.out]
     generalize (l.all fun b => suitB (machB st ⟨cxl, cxh⟩ ⟨cyl, cyh⟩ ⟨wxl, wxh⟩ ⟨wyl, wyh⟩ rs) st b.holes b.err) = al
     cases al <;> cases machB st ⟨cxl, cxh⟩ ⟨cyl, cyh⟩ ⟨wxl, wxh⟩ ⟨wyl, wyh⟩ rs <;> cases inB l.length 1 3 <;> simp
    rcases hcase with ⟨q1, rfl⟩ | ⟨q1, q2, rfl⟩ | ⟨q1, q2, q3, rfl⟩ | ⟨q1, q2, q3, rfl⟩
    ·rw [q1] at k101
     simp only [togV, Bool.false_eq_true, if_false]
     clear HTO HSM HSU q1
     repeat' (first | refine goS ?_ | (apply U6; exact Z1; exact Z1; (focus (simp only [List.nil_append, List.append_nil]; first | exact k101 _ | exact k93 _)); simp only [pM, pN, rR, rP]) | refine go2 (fun hh => ?_) (fun hh => ?_) | fail)
     all_goals (simp only [resV_def (X := dX cJD) Tryz.func50, Tryz.results50]; first | exact J5 | refine J6 ?_)
    ·rw [q1] at k101
     rw [q2] at k93
     simp only [togV, Bool.false_eq_true, if_false]
     clear HTO HSM HSU q1 q2
     repeat' (first | refine goS ?_ | (apply U6; exact Z1; exact Z1; (focus (simp only [List.nil_append, List.append_nil]; first | exact k101 _ | exact k93 _)); simp only [pM, pN, rR, rP]) | refine go2 (fun hh => ?_) (fun hh => ?_) | fail)
     all_goals (simp only [resV_def (X := dX cJD) Tryz.func50, Tryz.results50]; first | exact J5 | refine J6 ?_)
    ·rw [q1] at k101
     rw [q2] at k93
     have h110 := H110.out _ (show Heap.get ⟨0 + 1 + 1, (Mp.nil.set 0 (.var [sa, .int .i64 cxl, .int .i64 cxh, .int .i64 cyl, .int .i64 cyh, .int .i64 wxl, .int .i64 wxh, .int .i64 wyl, .int .i64 wyh, ra])).set (0 + 1) (.var [la])⟩ 0 = some (.var [sa, .int .i64 cxl, .int .i64 cxh, .int .i64 cyl, .int .i64 cyh, .int .i64 wxl, .int .i64 wxh, .int .i64 wyl, .int .i64 wyh, ra]) from rfl)
     rw [q3] at h110
     have HK110 := Lib.hid h110
     simp only [togV, Bool.false_eq_true, if_false]
     clear HTO HSM HSU q1 q2 q3 h110
     repeat' (first | refine goS ?_ | (apply U6; exact Z1; exact Z1; (focus (simp only [List.nil_append, List.append_nil]; first | exact k101 _ | exact k93 _ | exact HK110.out)); simp only [pM, pN, rR, rP]) | refine go2 (fun hh => ?_) (fun hh => ?_) | fail)
     all_goals (simp only [resV_def (X := dX cJD) Tryz.func50, Tryz.results50]; first | exact J5 | refine J6 ?_)
    ·have hst4 := (HSM.out q1).2.1
     have hst1 := (HSM.out q1).1
     have hrl := (HSM.out q1).2.2
     have hl13 : 1 <= l.length /\ l.length <= 3 := by
      simp only [inB, Bool.and_eq_true, decide_eq_true_eq] at q2
      omega
     have hall := List.all_eq_true.1 q3
     rw [q1] at k101
     rw [q2] at k93
     have h110 := H110.out _ (show Heap.get ⟨0 + 1 + 1, (Mp.nil.set 0 (.var [sa, .int .i64 cxl, .int .i64 cxh, .int .i64 cyl, .int .i64 cyh, .int .i64 wxl, .int .i64 wxh, .int .i64 wyl, .int .i64 wyh, ra])).set (0 + 1) (.var [la])⟩ 0 = some (.var [sa, .int .i64 cxl, .int .i64 cxh, .int .i64 cyl, .int .i64 cyh, .int .i64 wxl, .int .i64 wxh, .int .i64 wyl, .int .i64 wyh, ra]) from rfl)
     rw [q3] at h110
     have HK110 := Lib.hid h110
     have HALL := Lib.hid (fun b (hm : b ∈ l) => HSU.out b (hall b hm))
     have HBO2 := Lib.hid (show prodL (l.map (ddB st)) <= 16000000 by simpa using HBO.out)
     have HPO := Lib.hid (show possB ⟨cxl, cxh⟩ ⟨cyl, cyh⟩ ⟨wxl, wxh⟩ ⟨wyl, wyh⟩ rs = ((boundsS (ax0 ⟨cxl, cxh⟩ ⟨wxl, wxh⟩ rs [])).isSome && (boundsS (ax1 ⟨cyl, cyh⟩ ⟨wyl, wyh⟩ rs [])).isSome) from rfl)
     clear HTO HSM HSU q1 q2 q3 h110 hall
     cases hpo : possB ⟨cxl, cxh⟩ ⟨cyl, cyh⟩ ⟨wxl, wxh⟩ ⟨wyl, wyh⟩ rs with
     | false =>
      have e1 := kn_no (HPO.out.symm.trans hpo)
      have hk := HHK.out
      rw [e1] at hk
      have HK := Lib.hid hk
      simp only [togV, Bool.false_eq_true, if_false, if_true]
      clear hk e1 hpo
      repeat' (first | refine goS ?_ | (apply U6; exact Z1; exact Z1; (focus (simp only [List.nil_append, List.append_nil]; first | exact k101 _ | exact k93 _ | exact HK110.out | exact H102.out _ _ | exact HK.out _ _ rfl)); simp only [pM, pN, rR, rP]) | refine go2 (fun hh => ?_) (fun hh => ?_) | fail)
      all_goals (simp only [resV_def (X := dX cJD) Tryz.func50, Tryz.results50]; first | exact J5 | refine J6 ?_)
     | true =>
      obtain ⟨ka, kb, e1, ou1, ou2, tu1, tu2⟩ := kn_yes (HPO.out.symm.trans hpo)
      have hk := HHK.out
      rw [e1] at hk
      have HK := Lib.hid hk
      simp only [togV, if_true]
      generalize hsres : srchT (posH ⟨cxl, cxh⟩ ⟨cyl, cyh⟩ ⟨wxl, wxh⟩ ⟨wyl, wyh⟩ rs) (l.map (ddB st)) [] [[]] = sres
      have HSR := Lib.hid hsres
      clear hk e1 hpo hsres
      repeat' (first | refine goS ?_ | (apply U6; exact Z1; exact Z1; (focus (simp only [List.nil_append, List.append_nil]; first | exact k101 _ | exact k93 _ | exact HK110.out | exact H102.out _ _ | exact HK.out _ _ rfl)); simp only [pM, pN, rR, rP]) | refine go2 (fun hh => ?_) (fun hh => ?_) | fail)
      refine W.loopN l.length (fun i F => ∃ e lm hp owns av, F = Fr.mk 50 false e lm hp [] none /\ hp.get 0 = some (.var [sa, .int .i64 cxl, .int .i64 cxh, .int .i64 cyl, .int .i64 cyh, .int .i64 wxl, .int .i64 wxh, .int .i64 wyl, .int .i64 wyh, ra]) /\ hp.get 1 = some (.var [la]) /\ hp.get 3 = some (.var [sa, .int .i64 cxl, .int .i64 cxh, .int .i64 cyl, .int .i64 cyh, .int .i64 wxl, .int .i64 wxh, .int .i64 wyl, .int .i64 wyh, ra, .map 2]) /\ hp.get 4 = some (.var [av]) /\ 4 < hp.next /\ Blt hp av 1 owns /\ ElemsC bxC 4 hp owns ((l.take i).map (ddB st)) /\
       e.get 2 = some (.ptr 0 0) /\ e.get 3 = some (.ptr 1 0) /\ e.get 6 = some (.ptr 3 0) /\ e.get 9 = some (.ptr 4 0) /\ e.get 39 = some la /\ e.get 40 = some (.int .i64 ↑l.length) /\ e.get 41 = some (.int .i64 ↑i) /\ i <= l.length) ?_ ?_
      ·refine ⟨_, _, _, [], .nilslice, rfl, rfl, rfl, rfl, rfl, by simp only; omega, Blt.nil, ElemsC.nil, ?_, ?_, ?_, ?_, ?_, ?_, ?_, ?_⟩ <;> first | exact Z2 | simp [go_sem, *]
      clear HHK H102 H110 HK110 HK
      rintro i F ⟨e, lm, ⟨qn, qm⟩, owns, av, rfl, g0, g1, g3, g4, hq4, hba, hbo, h2, h3, h6, h9, h39, h40, h41, hi⟩
      have HGS := Lib.hid (And.intro g0 (And.intro g1 (And.intro g3 g4)))
      have HBA0 := Lib.hid hba
      have HBO0 := Lib.hid hbo
      clear hba hbo
      simp only at hq4
      by_cases hlt : i < l.length
      ·have hd : decide ((i : Int) < (l.length : Int)) = true := by simpa using hlt
       have hw := wrap_nat (k := i) (m := l.length) hlt (by omega)
       obtain ⟨b, hbi⟩ := get_some hlt
       have hbm := List.mem_of_getElem? hbi
       have hbok := List.all_eq_true.1 HOK.out b hbm
       have cb := BA.cells hbok
       have hix := but_idx HB.out hbi (by rw [cb]; rfl)
       have qb := BA.ok_is hbok
       have ob := sl_out qb
       obtain ⟨nb, tb⟩ := sl_one qb
       have hhl := (HALL.out b hbm).2.2.1
       have h113 := fun pn pm => C113 cJD rfl sa b.ha b.err st b.holes HL.out qb pn pm
       have HC113 := Lib.hid h113
       have HQB := Lib.hid qb
       have HBI := Lib.hid hbi
       simp only [AV.cells] at cb
       simp only [isTuple] at tb
       have okc : OwnOk (fun (s : List Bx) h => cellI qn 4 (s.map bxC.enc) h /\ True) (cellO qn) := cell_ok qn 4 (fun (s : List Bx) => s.map bxC.enc) (fun _ => True)
       have i0 : cellI qn 4 (([] : List Bx).map bxC.enc) ⟨qn + 1, qm.set qn (.var [.nilslice])⟩ /\ True := ⟨⟨by simp only; omega, .nilslice, by rw [hget_set, if_pos rfl], Blt.nil⟩, trivial⟩
       have noOld : ∀ id, id < qn -> ¬ cellO qn ⟨qn + 1, qm.set qn (.var [.nilslice])⟩ id := fun id hid => by
        rintro (q | ⟨off, n, q⟩)
        ·omega
        ·rw [hget_set, if_pos rfl] at q
         cases q
       simp only [hp_get] at g0 g1 g3 g4
       have n0 : (qn == 0) = false := beq_eq_false_iff_ne.2 (by omega)
       have n0a : (qn + 1 == 0) = false := beq_eq_false_iff_ne.2 (by omega)
       clear h113 qb hbok
       repeat' (first | (refine W.label ?_; simp only [tN, bN, eN, true_and]) | refine go1 ?_ | (apply U6; exact Z1; exact Z1; (focus (simp only [List.nil_append, List.append_nil]; first | exact HC113.out _ _)); simp only [pM, pN, rR, rP]) | refine go2 (fun hh => ?_) (fun hh => ?_) | fail)
       have X2 : ∀ blk, HExt ⟨qn + 1, qm.set qn (.var [.nilslice])⟩ (Heap.new ⟨qn + 1 + 1 + 1, ((qm.set qn (.var [.nilslice])).set (qn + 1) (.var [sa])).set (qn + 1 + 1) (.var [b.ha, .int .i64 b.err])⟩ blk) := fun blk => by
        refine ⟨by simp only [Heap.new]; omega, fun id hid => ?_⟩
        simp only at hid
        rw [Heap.get_new, if_neg (by simp only; omega), hget_set, if_neg (by omega), hget_set, if_neg (by omega)]
        rfl
       have I2 := fun blk => (okc.ext _ _ _ i0 (X2 blk)).1
       have R2 := fun blk => okc.rel i0 (X2 blk)
       have F2 : ∀ blk id, qn + 1 <= id -> ¬ cellO qn (Heap.new ⟨qn + 1 + 1 + 1, ((qm.set qn (.var [.nilslice])).set (qn + 1) (.var [sa])).set (qn + 1 + 1) (.var [b.ha, .int .i64 b.err])⟩ blk) id := fun blk id hid ho => by
        have := okc.lt _ _ id i0 ((okc.ext _ _ _ i0 (X2 blk)).2 id ho)
        simp only at this
        omega
       have N2 : ∀ blk, (Heap.new ⟨qn + 1 + 1 + 1, ((qm.set qn (.var [.nilslice])).set (qn + 1) (.var [sa])).set (qn + 1 + 1) (.var [b.ha, .int .i64 b.err])⟩ blk).next = qn + 1 + 1 + 1 + 1 := fun _ => rfl
       have GA : ∀ blk, (Heap.new ⟨qn + 1 + 1 + 1, ((qm.set qn (.var [.nilslice])).set (qn + 1) (.var [sa])).set (qn + 1 + 1) (.var [b.ha, .int .i64 b.err])⟩ blk).get (qn + 1) = some (.var [sa]) := fun blk => by
        rw [Heap.get_new, if_neg (by simp only; omega), hget_set, if_neg (by omega), hget_set, if_pos rfl]
       have GB : ∀ blk, (Heap.new ⟨qn + 1 + 1 + 1, ((qm.set qn (.var [.nilslice])).set (qn + 1) (.var [sa])).set (qn + 1 + 1) (.var [b.ha, .int .i64 b.err])⟩ blk).get (qn + 1 + 1) = some (.var [b.ha, .int .i64 b.err]) := fun blk => by
        rw [Heap.get_new, if_neg (by simp only; omega), hget_set, if_pos rfl]
       have GL : ∀ blk, (Heap.new ⟨qn + 1 + 1 + 1, ((qm.set qn (.var [.nilslice])).set (qn + 1) (.var [sa])).set (qn + 1 + 1) (.var [b.ha, .int .i64 b.err])⟩ blk).get (qn + 1 + 1 + 1) = some blk := fun blk => by
        rw [Heap.get_new, if_pos rfl]
       apply W.rangeEnds (R := stU (fun (s : List Bx) h => cellI qn 4 (s.map bxC.enc) h /\ True) (fun _ _ => False) (cellO qn) (fun id => id = qn + 1 + 1 + 1) _ (foldS stepJ (boxL b.err st b.holes) []))
       ·exact Z1
       ·have hR : ∀ (y : Bx) (rem : List Bx) (s s' : List Bx), s.length + (y :: rem).length <= 192 -> stepJ y s = (s', true) -> s'.length + rem.length <= 192 := by
         intro y rem s s' h e
         simp only [stepJ, Prod.mk.injEq, and_true] at e
         subst e
         simp only [List.length_cons] at h
         have := addU_len s y
         omega
        have hr0 : ([] : List Bx).length + (boxL b.err st b.holes).length <= 192 := by
         have := boxL_len (err := b.err) (hs := b.holes) hst4
         simpa using this
        refine G163 (fun (s : List Bx) h => cellI qn 4 (s.map bxC.enc) h /\ True) (fun _ _ => False) (cellO qn) okc stepJ (fun rem s => s.length + rem.length <= 192) hR cJD rfl rfl rfl rfl rfl rfl rfl rfl (qn + 1 + 1 + 1) (qn + 1) (qn + 1 + 1) sa b.ha b.err st b.holes HL.out HQB.out hhl (by omega) (by omega) _ []
         (GA _) (GB _) (by rw [N2]; omega) (by rw [N2]; omega) (by rw [N2]; omega) (F2 _ _ (by omega)) (F2 _ _ (by omega)) (I2 _) hr0 (fun _ _ _ _ _ _ _ _ _ _ _ d => d.elim) ?_
        intro s y rem h1' hrem i3 kx
        have kL := kx.2 (qn + 1 + 1 + 1) (by rw [N2]; omega) (F2 _ _ (by omega))
        have hL := kL.1.trans (GL _)
        have fL := kL.2
        have lL1 : qn + 1 + 1 + 1 < h1'.next := Nat.lt_of_lt_of_le (by rw [N2]; omega) kx.1
        obtain ⟨er, hE, hL⟩ : ∃ er, er = _ /\ h1'.get (qn + 1 + 1 + 1) = some (.loop 50 er _ _ _ .ready none) := ⟨_, rfl, hL⟩
        have r12 : er.get 12 = some (.ptr qn 0) := by rw [hE, Mp.get_map]; simp [go_sem, *, noBox]
        have HHL := Lib.hid hL
        have HREM := Lib.hid hrem
        have HI3 := Lib.hid i3
        have HFL := Lib.hid fL
        refine round_ok' hL rfl ?_
        clear hE hL kL fL i3 kx X2 I2 R2 F2 N2 GA GB GL h2 h3 h6 h9 h39 h40 h41 g0 g1 g3 g4 hrem hR hr0 n0 n0a i0
        simp only [bxC]
        repeat' (first | refine goS ?_ | refine go2 (fun hh => ?_) (fun hh => ?_) | fail)
        rintro ⟨zn, zm⟩ hzn hzg hzL
        have bi := rnd_in okc HI3.out hzn hzg HFL.out
        have bg : ∀ s4 h', _ -> Rel (cellO qn) ⟨zn, zm⟩ h' -> _ := fun s4 h' => back_go okc (s4 := s4) (h' := h') HI3.out hzn hzg HHL.out HFL.out lL1
        have lz : qn + 1 + 1 + 1 < zn := by rw [show zn = h1'.next from hzn]; exact lL1
        have HBI2 := Lib.hid bi
        have HBG := Lib.hid bg
        have HZL := Lib.hid hzL
        obtain ⟨⟨hb3, v, gv, bv⟩, _⟩ := bi.1
        have hsl : s.length <= 192 := by have := HREM.out; simp only [List.length_cons] at this; omega
        have k114 := K114 (X := dX cJD) rfl v s y ⟨zn, zm⟩ bv (by unfold maxL; omega)
        rw [any_sym] at k114
        have HAD := Lib.hid (addU_def s y)
        have HBV := Lib.hid bv
        have GV := Lib.hid gv
        have ov := bv.out
        have hvn : ∀ id vs, (Heap.mk zn zm).get id = some (.var vs) -> ∀ off n, v ≠ .row id off n := fun id vs hg => bv.ne_row (fun z r => by rw [hg]; simp)
        have HVN := Lib.hid hvn
        have hll : s.length + (0 + 1) <= most := by unfold most; omega
        simp only [hp_get] at gv
        clear hzn hzg hzL bi bg bv hvn hsl
        generalize (s.any fun p => bxEq p y) = mt at *
        have HK114 := Lib.hid k114
        clear k114
        cases mt with
        | true =>
         repeat' (first | refine goS ?_ | (apply U6; exact Z1; exact Z1; (focus (simp only [List.nil_append, List.append_nil]; first | exact HK114.out)); simp only [pM, pN, rR, rP]) | refine go2 (fun hh => ?_) (fun hh => ?_) | fail)
         rw [roundQ_norm]
         simp only [endV, HZL.out]
         have := HBG.out s _ HBI2.out.1 (Rel.refl _ _)
         exact stR_go (by simp only [stepJ, HAD.out, if_true]) this.1 this.2
        | false =>
         repeat' (first | (apply WO1.appendE (t := 165) (u := 165) (e := 169) (e' := 169) (sz := 4) (tl := []) (hb := HBV.out); exact Z1; exact rfl; exact Z2; exact Z2; exact Z2; (focus (exact ty_row165)); exact Z1; (focus (intro v hv; simp at hv; subst hv; rfl)); (focus (simp only [List.length_map, List.length_cons, List.length_nil]; exact hll)); (focus (simp)); (intro v1 hp1 hB1 ho1 hK1 hE1; have hc1 := hB1.cells; have ht1 := hB1.tup; simp only [AV.cells] at hc1; simp only [isTuple] at ht1; obtain ⟨n1, m1⟩ := hp1; have hg3 := (hK1.2 qn hb3 (HVN.out qn _ GV.out)).trans GV.out; simp only [hp_get] at hg3; have HG3 := Lib.hid hg3; have HK1 := Lib.hid hK1; have HB1 := Lib.hid hB1; have HE1 := Lib.hid hE1; clear hK1 hB1 hE1; simp only [pM, pN])) | refine go1 ?_ | (apply U6; exact Z1; exact Z1; (focus (simp only [List.nil_append, List.append_nil]; first | exact HK114.out)); simp only [pM, pN, rR, rP]) | refine go2 (fun hh => ?_) (fun hh => ?_) | fail)
         rw [roundQ_norm]
         have kL := (HK1.out.2 (qn + 1 + 1 + 1) lz (HBV.out.ne_row (fun z r => by rw [HZL.out]; simp))).trans HZL.out
         simp only [hp_get] at kL
         have d3 : ¬ qn = qn + 1 + 1 + 1 := by omega
         simp only [endV, hp_get, Mp.get_set, d3, if_false, kL]
         refine stR_goJ (s := s ++ [y]) (by simp only [stepJ, HAD.out, Bool.false_eq_true, if_false]) (HBG.out (s ++ [y]) _ ⟨⟨?_, v1, ?_, ?_⟩, trivial⟩ ⟨HK1.out.1, fun id hid ho => ⟨?_, ?_⟩⟩)
         ·exact Nat.lt_of_lt_of_le hb3 HK1.out.1
         ·simp [hp_get, Mp.get_set]
         ·have hne3 : ∀ z r, (Heap.mk n1 m1).get qn ≠ some (.rw z r) := fun z r e => by rw [hp_get, HG3.out] at e; cases e
          rw [show (s ++ [y]).map bxC.enc = s.map bxC.enc ++ [.agg [.int .i64 y.x.lo, .int .i64 y.x.hi, .int .i64 y.y.lo, .int .i64 y.y.hi]] by simp [bxC]]
          exact HB1.out.putv (id := qn) (bl := .var [v1]) hne3
         ·have e3 : ¬ qn = id := fun e => ho (.inl e.symm)
          rw [hp_get, Mp.get_set, if_neg e3]
          exact HK1.out.2 id hid (fun off n e => ho (.inr ⟨off, n, by rw [GV.out, e]⟩))
         ·rintro (q | ⟨off', n', q⟩)
          ·exact ho (.inl q)
          ·rw [hp_get, Mp.get_set, if_pos rfl] at q
           cases q
           have := HE1.out
           cases this
           exact absurd hid (Nat.lt_irrefl _)
       ·intro r hcl hR
        rcases stU_or hR with ⟨s4, h', ex, rfl, i4, kr⟩ | ⟨s4, h', ex, rfl, d4, ke⟩
        ·have kL := kr.2 (qn + 1 + 1 + 1) (by rw [N2]; omega) (F2 _ _ (by omega))
         have hL := kL.1.trans (GL _)
         have hfin := fun bl => fin_go okc (bl := bl) (h0 := ⟨qn + 1, qm.set qn (.var [.nilslice])⟩) (L1 := qn + 1 + 1 + 1) (by simp only; omega) ((R2 _).trans kr) i4 kL.2
         refine W.rangeNorm rfl ?_ hcl hL (fun e => by cases e) ?_
         ·first | exact Z2 | exact Z1
         clear hcl hL
         generalize hput : Heap.put h' _ _ = hz
         have hf : (cellI qn 4 (s4.map bxC.enc) hz /\ True) /\ Rel (cellO qn) ⟨qn + 1, qm.set qn (.var [.nilslice])⟩ hz := by rw [<- hput]; exact hfin _
         have hs4 : s4 = ddB st b := by
          rw [foldJ] at ex
          exact (congrArg Prod.fst ex).symm
         obtain ⟨zn, zm⟩ := hz
         have hzx : HExt ⟨qn, qm⟩ ⟨zn, zm⟩ := by
          refine ⟨?_, fun id hid => ?_⟩
          ·have := hf.2.1
           simp only at this ⊢
           omega
          ·simp only at hid
           rw [(hf.2.2 id (by simp only; omega) (noOld id hid)).1, hget_set, if_neg (by omega)]
           rfl
         have z0 := (hzx.2 0 (by simp only; omega)).trans HGS.out.1
         have z1 := (hzx.2 1 (by simp only; omega)).trans HGS.out.2.1
         have z3 := (hzx.2 3 (by simp only; omega)).trans HGS.out.2.2.1
         have z4 := (hzx.2 4 (by simp only; omega)).trans HGS.out.2.2.2
         obtain ⟨hbq, ov, gq, bq⟩ := hf.1.1
         rw [hs4] at bq
         have oov := bq.out
         have tov := bq.tup
         have cov := bq.cells
         have hcv : ov.cells.length = 1 := by rw [bq.cells]; rfl
         simp only [AV.cells] at cov
         simp only [isTuple] at tov
         have hba := HBA0.out.ext hzx
         have oav := hba.out
         have hbo := HBO0.out.ext hzx
         have hlo : owns.length + (0 + 1) <= most := by
          have := HBO0.out.1
          rw [List.length_map, List.length_take] at this
          unfold most
          omega
         have HBA := Lib.hid hba
         have HBO1 := Lib.hid (hbo.add bq)
         have HZS := Lib.hid (And.intro z0 (And.intro z1 (And.intro z3 z4)))
         have HLT := Lib.hid (show 4 < zn by have := hzx.1; simp only at this; omega)
         have HN4 := Lib.hid (HBA.out.ne_row (id := 4) (fun z r => by rw [HZS.out.2.2.2]; simp))
         simp only [hp_get] at z0 z1 z3 z4 gq
         clear hput hfin hf kL kr ex i4 hR X2 I2 R2 F2 N2 GA GB GL hs4 i0 g0 g1 g3 g4 n0 n0a hba hbo bq noOld okc hzx
         simp only [bN, tN]
         repeat' (first | (refine W.label ?_; simp only [tN, bN, eN, true_and]) | (apply WO1.appendE (t := 164) (u := 164) (e := 165) (e' := 165) (sz := 1) (tl := []) (hb := HBA.out); exact Z1; exact rfl; exact Z2; exact Z2; exact Z2; (focus (exact ty_row164)); exact Z1; (focus (intro x hx; simp only [List.mem_singleton] at hx; subst hx; exact hcv)); (focus (simp only [List.length_cons, List.length_nil]; exact hlo)); (focus (simp)); (intro v1 hp1 hB1 ho1 hK1 hE1; have hc1 := hB1.cells; have ht1 := hB1.tup; simp only [AV.cells] at hc1; simp only [isTuple] at ht1; obtain ⟨n1, m1⟩ := hp1; have hg4 := (hK1.2 4 HLT.out HN4.out).trans HZS.out.2.2.2; simp only [hp_get] at hg4; have HK1 := Lib.hid hK1; have HB1 := Lib.hid hB1; have HE1 := Lib.hid hE1; clear hK1 hB1 hE1; simp only [pM, pN])) | refine go1 ?_ | refine go2 (fun hh => ?_) (fun hh => ?_) | fail)
         have h40 := HK1.out.2 0 (by have := HLT.out; simp only; omega) (HBA.out.ne_row (fun z r => by rw [HZS.out.1]; simp))
         have h41' := HK1.out.2 1 (by have := HLT.out; simp only; omega) (HBA.out.ne_row (fun z r => by rw [HZS.out.2.1]; simp))
         have h43 := HK1.out.2 3 (by have := HLT.out; simp only; omega) (HBA.out.ne_row (fun z r => by rw [HZS.out.2.2.1]; simp))
         have h44 := HK1.out.2 4 (by have := HLT.out; simp only; omega) (HBA.out.ne_row (fun z r => by rw [HZS.out.2.2.2]; simp))
         have hne4 : ∀ z r, (Heap.mk n1 m1).get 4 ≠ some (.rw z r) := fun z r e => by rw [h44, HZS.out.2.2.2] at e; cases e
         refine ⟨hlt, _, _, ⟨n1, m1.set 4 (.var [v1])⟩, owns ++ [ov], v1, rfl, ?_, ?_, ?_, ?_, ?_, HB1.out.putv (id := 4) (bl := .var [v1]) hne4, ?_, ?_, ?_, ?_, ?_, ?_, ?_, ?_, by omega⟩
         ·rw [hget_set, if_neg (by omega)]; exact h40.trans HZS.out.1
         ·rw [hget_set, if_neg (by omega)]; exact h41'.trans HZS.out.2.1
         ·rw [hget_set, if_neg (by omega)]; exact h43.trans HZS.out.2.2.1
         ·rw [hget_set, if_pos rfl]
         ·exact Nat.lt_of_lt_of_le HLT.out HK1.out.1
         ·have e5 : (l.take (i + 1)).map (ddB st) = (l.take i).map (ddB st) ++ [ddB st b] := by rw [take_next HBI.out, List.map_append]; rfl
          rw [e5]
          exact (HBO1.out.other HBA.out (by omega) HK1.out).putv (id := 4) (bl := .var [v1]) hne4
         all_goals exact Z2
        ·exact d4.elim
      ·have hd : decide ((i : Int) < (l.length : Int)) = false := by simpa using hlt
       have htk : l.take i = l := List.take_of_length_le (by omega)
       have hbo := HBO0.out
       rw [htk] at hbo
       have hx1 : HExt ⟨qn, qm⟩ ⟨qn + 1, (qm.set qn (.var [.nilfunc])).set qn (.var [.func (.func 115) [] [.ptr 1 0, .ptr 4 0, .ptr 3 0, .ptr qn 0]])⟩ := by
        refine ⟨by simp only; omega, fun id hid => ?_⟩
        simp only at hid
        rw [hget_set, if_neg (by omega), hget_set, if_neg (by omega)]
        rfl
       have h115 := C115 cJD rfl rfl rfl rfl rfl sa ra (.map 2) la av ⟨cxl, cxh⟩ ⟨cyl, cyh⟩ ⟨wxl, wxh⟩ ⟨wyl, wyh⟩ rs HR.out n2 rfl t2 rfl o2 rfl (by omega) l.length hl13.1 (by omega) ln4 o4 t4 1 4 3 qn owns (l.map (ddB st)) (by rw [List.length_map]) (l.map (ddB st)) [] [[]] .vempty (.vslice [.nilslice]) ⟨qn + 1, (qm.set qn (.var [.nilfunc])).set qn (.var [.func (.func 115) [] [.ptr 1 0, .ptr 4 0, .ptr 3 0, .ptr qn 0]])⟩
        ⟨(hx1.2 1 (by simp only; omega)).trans HGS.out.2.1, (hx1.2 4 (by simp only; omega)).trans HGS.out.2.2.2, (hx1.2 3 (by simp only; omega)).trans HGS.out.2.2.1, by rw [hget_set, if_pos rfl], ⟨by simp only; omega, by simp only; omega, by simp only; omega, by simp only; omega⟩, HBA0.out.ext hx1, hbo.ext hx1⟩
        (.inl ⟨rfl, rfl⟩) ⟨[.nilslice], .inl ⟨rfl, by simp⟩, ⟨rfl, fun k r p h1 h2 => by
         cases k with
         | zero => simp at h1 h2; subst h1 h2; exact Blt.nil
         | succ k => simp at h1⟩⟩ (by rw [List.length_map]; simp) (by simp) (fun w hw => by simp at hw; subst hw; rfl) (by simpa using HBO2.out)
       unfold ClR at h115
       obtain ⟨r2, hsea, hrr⟩ := h115
       unfold tgR at hrr
       obtain ⟨h4, rfl, hk4⟩ := hrr
       have hne := fun s (e : srchT (posH ⟨cxl, cxh⟩ ⟨cyl, cyh⟩ ⟨wxl, wxh⟩ ⟨wyl, wyh⟩ rs) (l.map (ddB st)) [] [[]] = some s) => srchT_ne _ _ _ _ s e (by rw [List.length_map]; simp; omega)
       rw [HSR.out] at hsea hne
       have n1q : (qn == 1) = false := beq_eq_false_iff_ne.2 (by omega)
       simp only [hp_get] at g0 g1 g3 g4
       clear hbo hx1 hk4 htk hlt hi
       cases sres with
       | none =>
        simp only [ansV] at hsea
        have q39 := eq39n
        repeat' (first | (apply U6; exact Z1; exact Z1; (focus (exact hsea)); simp only [pM, pN, rR, rP]) | refine go1 ?_ | refine go2 (fun hh => ?_) (fun hh => ?_) | fail)
        all_goals (simp only [resV_def (X := dX cJD) Tryz.func50, Tryz.results50]; first | exact J5 | refine J6 ?_)
       | some s =>
        have hsn := hne s rfl
        have hsv : slN (natsV s) = .vslice (natsV s) := by
         cases s with
         | nil => exact absurd rfl hsn
         | cons a l => rfl
        simp only [ansV, hsv] at hsea
        simp only [hsv]
        have q39 := eq39v (natsV s)
        clear hsn hne
        repeat' (first | (apply U6; exact Z1; exact Z1; (focus (exact hsea)); simp only [pM, pN, rR, rP]) | refine go1 ?_ | refine go2 (fun hh => ?_) (fun hh => ?_) | fail)
        all_goals (simp only [resV_def (X := dX cJD) Tryz.func50, Tryz.results50]; first | exact J5 | refine J6 ?_)
   ·cases h
  ·cases h
 ·cases h
end Go.AM
namespace Go.AM
open Go
variable [Keep]
theorem WO1.gund {X : Ctx} {ops : Array Oper} {K P : AV -> Fr -> Prop} {F : Fr} {d : Option Tmp} {op : Op} {T : TypeId} {p : String} {af : Array Edge} {j : Nat} {want : Bool} {o : Oper} {t : Tmp} (ho : ops[j]? = some o) (ht : o.dst = some t) (hb : F.e.get t = some undefA) (h : K undefA (F.put d undefA)) : WO1 X ops ⟨d, op, T, p, af, some (j, want)⟩ F K P :=
 ⟨.val undefA (F.put d undefA), ⟨0, fun m _ => by simp [stepOp, guardOk, wantedA, yieldedA, ho, ht, hb, undefA]⟩, h⟩
end Go.AM
namespace Go.AM
open Go Go.Proofs
variable [Keep]
attribute [local irreducible] W WO WO1 WD WQ WT thenQ blockQ endR isRet retK Cl ClR
attribute [local irreducible] isNew roundQ RdR boundsS machB boxL suitB posH clS clN tgR addU refBoxes bothV minT
def dRwsJ : FuncId -> List Tmp
 | 119 => [102]
 | f => dRws f
noncomputable def dXJ (intr : Itr) : Ctx := { P := Tryz.prog, hts := dHts, rws := dRwsJ, frz := dFrz, intr }
theorem dXJ_P (intr : Itr) : (dXJ intr).P = Tryz.prog := rfl
theorem dXJ_hts (intr : Itr) : (dXJ intr).hts = dHts := rfl
theorem dXJ_rws (intr : Itr) : (dXJ intr).rws = dRwsJ := rfl
theorem dXJ_frz (intr : Itr) : (dXJ intr).frz = dFrz := rfl
theorem dRwsJ_a : dRwsJ 119 = [102] := rfl
attribute [go_sem] dXJ_P dXJ_hts dXJ_rws dXJ_frz dRwsJ_a
section
variable {X : Ctx} {ops : Array Oper} {K P : AV -> Fr -> Prop} {F : Fr} {d : Option Tmp} {T : TypeId} {p : String} {af : Array Edge}
theorem WO1.lit {s : Tmp} {t e : TypeId} {n sz : Nat} {ps : Array (Nat × Operand)} {l : List AV} (he : isEffAt X F.f ⟨some s, .buildSlice t n ps, T, p, af, none⟩ = true) (hel : elemT X.P t = some e) (hs : szT X.P e = sz) (hv : rdV X F (some s) (.buildSlice t n ps) = some (.vslice l))
  (h : K (.row F.hp.next 0 l.length) (({ F with hp := F.hp.new (.rw sz l) } : Fr).put (some s) (.row F.hp.next 0 l.length))) : WO1 X ops ⟨some s, .buildSlice t n ps, T, p, af, none⟩ F K P := by
 subst hs
 have hv : F.buildSliceV X.P t n ps.toList = some (.vslice l) := hv
 refine U5 (v := .row F.hp.next 0 l.length) (F' := { F with hp := F.hp.new (.rw (szT X.P e) l) }) he (fun cl rd => ?_) h
 simp only [efV, Fr.rowE, hel, hv]
end
def refTV : Option (List Nat) -> AV
 | none => .tuple [.nilslice, .bool false]
 | some s => .tuple [slN (natsV s), .bool true]
def rfR (h : Heap) (o : Option (List Nat)) (r : COut) : Prop := ∃ h', r = .ret (refTV o) h' none /\ HExt h h'
attribute [local irreducible] rfR
end Go.AM
namespace Go.AM
open Go Go.Proofs
variable [Keep]
attribute [local irreducible] W WO WO1 WD WQ WT thenQ blockQ endR isRet retK Cl ClR
attribute [local irreducible] roundQ RdR clR boundsS machB boxL suitB MA.could MA.poss MA.suit MA.mach
def sp54 : List AV -> Option AV
 | [.agg [ha, .int .i64 _]] => (slLen ha).map fun (n : Nat) => AV.bool (decide ((n : Int) <= 6))
 | _ => none
theorem F54 : IntrFn Tryz.prog 54 (pureFn sp54) := by
 refine pure_fn (X := dX cP2) cP2_sound (fun a v h => by
  unfold sp54 at h
  split at h
  ·simp only [Option.map_eq_some_iff] at h; obtain ⟨n, _, rfl⟩ := h; rfl
  ·cases h) ?_
 intro args v h
 unfold sp54 at h
 split at h
 ·simp only [Option.map_eq_some_iff] at h
  obtain ⟨n, hn, rfl⟩ := h
  obtain ⟨ln, ou, tu⟩ := slLen_is hn
  simp only [isTuple] at tu
  clear hn
  refine ClR.walk (c := _) rfl Tryz.func54 rfl (by kernel_rfl) rfl isRet_fail ?_
  simp only [entryEnv, Nat.reduceAdd]
  repeat' (first | refine goS ?_ | refine go2 (fun hh => ?_) (fun hh => ?_) | fail)
  all_goals (simp only [resV_def (X := dX cP2) Tryz.func54, Tryz.results54]; first | exact J5 | refine J6 ?_)
 ·cases h
theorem K54 {X : Ctx} (hX : X.intr 54 = some (pureFn sp54)) (ha : AV) (es : List AV) (err : Int) (hl : isSl ha es) (hp : ∀ x ∈ es, x.pur = true) (h : Heap) : Cl X 54 [.agg [ha, .int .i64 err]] h (.ret (.bool (decide ((es.length : Int) <= 6))) h none) :=
 Cl.intr hX (by simp [pureFn, AV.pur, AV.purL, hl.pur hp, sp54, slLen_mk hl])
def MA.good (m : MA) : Prop := ∃ (st : List Pt) (rs : List Rdg), isSl m.sa (st.map ptC.enc) /\ isSl m.ra (rs.map rdgC.enc)
def MA.thin (m : MA) : Bool := decide ((((slLen m.sa).getD 0 : Nat) : Int) <= 6) && decide ((((slLen m.ra).getD 0 : Nat) : Int) <= 6)
theorem MA.good_ok {m : MA} (h : m.good) (ht : m.thin = true) : m.ok = true := by
 obtain ⟨st, rs, h1, h2⟩ := h
 unfold MA.thin at ht
 rw [slLen_mk h1, slLen_mk h2] at ht
 simp only [Option.getD_some, List.length_map, Bool.and_eq_true, decide_eq_true_eq] at ht
 have e1 : slV ptC m.sa = some st := slV_mk h1 (by unfold maxL; omega)
 have e2 : slV rdgC m.ra = some rs := slV_mk h2 (by unfold maxL; omega)
 simp [MA.ok, e1, e2]
end Go.AM
namespace Go.AM
open Go Go.Proofs
variable [Keep]
attribute [local irreducible] W WO WO1 WD WQ WT thenQ blockQ endR isRet retK Cl ClR
attribute [local irreducible] isNew roundQ RdR boundsS machB boxL suitB posH clS clN tgR addU refBoxes bothV minT
def BA.good (m : BA) : Prop := ∃ hs : List Pt, isSl m.ha (hs.map ptC.enc)
def BA.thin (m : BA) : Bool := decide ((((slLen m.ha).getD 0 : Nat) : Int) <= 6)
theorem BA.good_ok {m : BA} (h : m.good) (ht : m.thin = true) : m.ok = true := by
 obtain ⟨hs, h1⟩ := h
 unfold BA.thin at ht
 rw [slLen_mk h1] at ht
 simp only [Option.getD_some, List.length_map, decide_eq_true_eq] at ht
 have e1 : slV ptC m.ha = some hs := slV_mk h1 (by unfold maxL; omega)
 simp [BA.ok, e1]
def btnsB (l : List BA) : Bool := (l.take 6).all BA.thin && decide ((l.length : Int) <= 5)
set_option maxHeartbeats 1000000 in
theorem C48 (c : Itr) (hc : c 48 = none) (hc54 : c 54 = some (pureFn sp54)) (la : AV) (l : List BA) (hl : isSl la (l.map butC.enc)) (hg : ∀ m ∈ l, m.good) (h : Heap) : Cl (dX c) 48 [la] h (.ret (.bool (btnsB l)) h none) := by
 refine ClR.cl ?_
 have hlen : lenS la = some l.length := by rw [hl.len, List.length_map]
 have hout := hl.out
 refine ClR.walk (c := _) hc Tryz.func48 rfl (by kernel_rfl) rfl (fun e => by cases e) ?_
 simp only [entryEnv, Nat.reduceAdd]
 repeat' (first | refine goS ?_ | refine go2 (fun hh => ?_) (fun hh => ?_) | fail)
 refine W.loopN 6 (fun k F => ∃ e, F = Fr.mk 48 false e .nil h [] none /\ (l.take k).all BA.thin = true /\ e.get 0 = some la /\ e.get 3 = some (.int .i64 ↑k) /\ k <= l.length /\ k <= 6) ?_ ?_
 ·refine ⟨_, rfl, ?_, ?_, ?_, ?_, ?_⟩ <;> simp [go_sem, *]
 rintro k F ⟨e, rfl, hall, h0, h3, hk, hk6⟩
 have HA := Lib.hid hall
 clear hall
 by_cases hlt : k < l.length
 ·have hd : decide ((k : Int) < (l.length : Int)) = true := by simpa using hlt
  by_cases h6 : k < 6
  ·have hd6 : decide ((k : Int) < 6) = true := by simp; omega
   obtain ⟨m, hm⟩ := get_some hlt
   have hmg := hg m (List.mem_of_getElem? hm)
   have hix : ∀ H, indexAddrV Tryz.prog H 70 la (.int .i64 ↑k) = some (.vptr [m.ha, .int .i64 m.err]) := fun H => hl.idx (x := butC.enc m) Tryz.underlying70 ty_lay77 (by simp [hm]) rfl
   have hw := wrap_succ h6 (show 6 <= maxL by unfold maxL; omega)
   obtain ⟨hs, h1⟩ := hmg
   have ob := h1.out
   have tb := h1.tup
   have cb := h1.cells
   have k54 := fun h => K54 (X := dX c) hc54 m.ha _ m.err h1 (enc_pur ptC hs) h
   have hth : BA.thin m = decide (((hs.map ptC.enc).length : Int) <= 6) := by unfold BA.thin; rw [slLen_mk h1]; rfl
   rw [<- hth] at k54
   have hnx : (l.take (k + 1)).all BA.thin = BA.thin m := by rw [take_next hm, List.all_append, HA.out]; simp
   have hno : BA.thin m = false -> btnsB l = false := fun e => by
    have : (l.take 6).all BA.thin = false := by
     rw [Bool.eq_false_iff]
     intro q
     have q2 := List.all_eq_true.1 q m (by
      have : (l.take 6)[k]? = some m := by rw [List.getElem?_take, if_pos h6]; exact hm
      exact List.mem_of_getElem? this)
     rw [e] at q2
     cases q2
    unfold btnsB
    rw [this]
    rfl
   have HNX := Lib.hid hnx
   have HNO := Lib.hid hno
   simp only [AV.cells] at cb
   simp only [isTuple] at tb
   clear hl hg hm h1 hth hnx hno
   generalize BA.thin m = th at *
   cases th with
   | true =>
    repeat' (first | refine goS ?_ | (apply U6; exact Z1; exact Z1; (focus (simp only [List.nil_append, List.append_nil]; first | exact k54 _)); simp only [pM, pN, rR, rP]) | refine go2 (fun hh => ?_) (fun hh => ?_) | fail)
    refine ⟨h6, _, rfl, HNX.out, ?_, ?_, by omega, by omega⟩
    all_goals exact Z2
   | false =>
    repeat' (first | refine goS ?_ | (apply U6; exact Z1; exact Z1; (focus (simp only [List.nil_append, List.append_nil]; first | exact k54 _)); simp only [pM, pN, rR, rP]) | refine go2 (fun hh => ?_) (fun hh => ?_) | fail)
    all_goals (simp only [resV_def (X := dX c) Tryz.func48, Tryz.results48]; first | exact J5 | refine J6 ?_)
    simp [isR, frzRes, dX_frz, dFrz, HNO.out rfl]
  ·have hd6 : decide ((k : Int) < 6) = false := by simp; omega
   have hk6' : k = 6 := by omega
   have hb : btnsB l = decide ((l.length : Int) <= 5) := by
    have := HA.out
    rw [hk6'] at this
    unfold btnsB
    rw [this]
    rfl
   have HB := Lib.hid hb
   clear hl hg hb hk6' hk6 hlt hk
   repeat' (first | refine goS ?_ | refine go2 (fun hh => ?_) (fun hh => ?_) | fail)
   all_goals (simp only [resV_def (X := dX c) Tryz.func48, Tryz.results48]; first | exact J5 | refine J6 ?_)
   simp [isR, frzRes, dX_frz, dFrz, HB.out]
 ·have hd : decide ((k : Int) < (l.length : Int)) = false := by simpa using hlt
  have hb : btnsB l = decide ((l.length : Int) <= 5) := by
   have h2 := HA.out
   have e1 : l.take 6 = l := List.take_of_length_le (by omega)
   have e2 : l.take k = l := List.take_of_length_le (by omega)
   rw [e2] at h2
   unfold btnsB
   rw [e1, h2]
   rfl
  have HB := Lib.hid hb
  clear hl hg hb hlt hk hk6
  repeat' (first | refine goS ?_ | refine go2 (fun hh => ?_) (fun hh => ?_) | fail)
  all_goals (simp only [resV_def (X := dX c) Tryz.func48, Tryz.results48]; first | exact J5 | refine J6 ?_)
  simp [isR, frzRes, dX_frz, dFrz, HB.out]
theorem prodL_le {m : Nat} : ∀ (a : List (List Bx)), (∀ b ∈ a, b.length <= m) -> prodL a <= (m + 1) ^ a.length := by
 intro a
 induction a with
 | nil => intro _; unfold prodL; simp
 | cons x a ih =>
  intro h
  have h1 := ih (fun b hb => h b (by simp [hb]))
  have h2 := h x (by simp)
  rw [prodL_cons, List.length_cons, Nat.pow_succ, Nat.mul_comm]
  exact Nat.mul_le_mul h1 (by omega)
theorem suit_parts' (mach : Bool) (st hs : List Pt) (err : Int) : suitB mach st hs err = (mach && butB hs err && decide (hs.length = st.length)) := by unfold suitB; rfl
theorem K50 {X : Ctx} (hX : X.intr 50 = some (pureFn sp50)) (sa ra la : AV) (st : List Pt) (rs : List Rdg) (l : List BA) (cx cy wx wy : Sp) (hl : slV ptC sa = some st) (hr : slV rdgC ra = some rs) (hb : slV butC la = some l) (hok : l.all BA.ok = true) (hs : togOk (machB st cx cy wx wy rs) st l = false \/ prodL (l.map (ddB st)) <= 16000000) (h : Heap) :
  Cl X 50 [.agg [sa, .int .i64 cx.lo, .int .i64 cx.hi, .int .i64 cy.lo, .int .i64 cy.hi, .int .i64 wx.lo, .int .i64 wx.hi, .int .i64 wy.lo, .int .i64 wy.hi, ra], la] h (.ret (togV (togOk (machB st cx cy wx wy rs) st l) (possB cx cy wx wy rs) (srchT (posH cx cy wx wy rs) (l.map (ddB st)) [] [[]])) h none) :=
 Cl.intr hX (by
  have e : (l.all BA.ok && (!(togOk (machB st cx cy wx wy rs) st l) || decide (prodL (l.map (ddB st)) <= 16000000))) = true := by
   rw [hok]
   rcases hs with q | q
   ·rw [q]; rfl
   ·rw [decide_eq_true q]; simp
  simp only [pureFn, AV.pur, AV.purL, sl_pur hl, sl_pur hr, sl_pur hb, Bool.and_self, if_true, sp50, hl, hr, hb, e])
end Go.AM
namespace Go.AM
open Go Go.Proofs
variable [Keep]
attribute [local irreducible] W WO WO1 WD WQ WT thenQ blockQ endR isRet retK Cl ClR
attribute [local irreducible] ordsR lev againS measB orderB machB boxL suitB
theorem ok200 {p : Pt} : okPt 200 p = true ↔ (-200 <= p.x /\ p.x <= 200) /\ (-200 <= p.y /\ p.y <= 200) := by
 have : w64 (-200) = -200 := rfl
 simp only [okPt, inB, this, Bool.and_eq_true, decide_eq_true_eq]
theorem off_eqw {off : Int} {p q : Pt} (h0 : 0 <= off) (h6 : off <= 6) (hp : okPt 80 p = true) (hq : okPt 200 q = true) :
  offB off p q = (!decide (w64 (p.x - q.x) > off) && !decide (w64 (q.x - p.x) > off) && !decide (w64 (p.y - q.y) > off) && !decide (w64 (q.y - p.y) > off)) := by
 rw [ok80] at hp
 rw [ok200] at hq
 have e1 : w64 (p.x - q.x) = p.x - q.x := wrap_small (by omega) (by omega)
 have e2 : w64 (q.x - p.x) = q.x - p.x := wrap_small (by omega) (by omega)
 have e3 : w64 (p.y - q.y) = p.y - q.y := wrap_small (by omega) (by omega)
 have e4 : w64 (q.y - p.y) = q.y - p.y := wrap_small (by omega) (by omega)
 have e5 : w64 (-off) = -off := wrap_small (by omega) (by omega)
 simp only [offB, okPt, inB, e1, e2, e3, e4, e5]
 rw [Bool.eq_iff_iff]
 simp
 omega
def gd36w (hs ps : List Pt) (off turn : Int) (o : List Int) : Bool := hs.all (okPt 200) && decide (hs.length <= 4) && inB off 0 6 && pointsB ps hs.length hs.length 80 && inB turn 0 7 && orderB o ps.length
def sp36w : List AV -> Option AV
 | [la, .int .i64 turn, oa, ca, .int .i64 off] => match slV ptC la, slV intC oa, slV ptC ca with
  | some ps, some o, some hs => if gd36w hs ps off turn o = true then some (.bool (accB off hs ps turn (o.map Int.toNat))) else none
  | _, _, _ => none
 | _ => none
theorem p36w : ∀ args v, sp36w args = some v -> v.flat = true := by
 intro args v h
 unfold sp36w at h
 split at h
 ·split at h
  ·split at h
   ·have h := Option.some.inj h
    subst h
    rfl
   ·cases h
  ·cases h
 ·cases h
set_option maxHeartbeats 8000000 in
theorem F36W : IntrFn Tryz.prog 36 (flatFn sp36w) := by
 refine flat_fn (X := dX cGH) cGH_sound p36w ?_
 intro args v h
 unfold sp36w at h
 split at h
 ·rename_i la turn oa ca off
  split at h
  ·rename_i ps os hs hl ho hc
   split at h
   ·rename_i hg
    have h := Option.some.inj h
    subst h
    unfold gd36w at hg
    simp only [Bool.and_eq_true] at hg
    obtain ⟨⟨⟨⟨⟨hho, hms⟩, m1⟩, m3⟩, m2⟩, m4⟩ := hg
    have hof : 0 <= off /\ off <= 6 := by simpa [inB] using m1
    obtain ⟨hof0, hof6⟩ := hof
    have hms : hs.length <= 4 := by simpa using hms
    have hin := m2
    simp only [inB, Bool.and_eq_true, decide_eq_true_eq] at hin
    obtain ⟨s, rfl⟩ : ∃ s : Nat, turn = s := ⟨turn.toNat, by omega⟩
    have hs8 : s < 8 := by omega
    simp only [pointsB, inB, Bool.and_eq_true, decide_eq_true_eq] at m3
    obtain ⟨hok, hln⟩ := m3
    have hlen : hs.length = ps.length := by omega
    have hl4 : ps.length <= 4 := by omega
    obtain ⟨p, rfl, hord⟩ := order_nat hl4 m4
    rw [toNat_map]
    have a1 := again_ok hs8 1 ps hok hl4
    have hx1 : iter (List.map (turnP (s : Nat))) 1 ps = ps.map (turnP (s : Nat)) := rfl
    rw [hx1] at a1
    have hmax : ps.length <= maxL := by unfold maxL; omega
    have k32 : ∀ h, Cl (dX cGH) 32 [la, .int .i64 ↑s, .int .i64 1] h (.ret (slN ((ps.map (turnP (s : Nat))).map ptC.enc)) h none) := fun h => by
     have := K32 (X := dX cGH) rfl la ps s 1 hl rfl h
     rw [show (1 : Int).toNat = 1 from rfl, a1] at this
     exact this
    have sxw : slV ptC (slN ((ps.map (turnP (s : Nat))).map ptC.enc)) = some (ps.map (turnP (s : Nat))) := slV_slN (by rw [List.length_map]; exact hmax)
    have o1 := sl_out hl
    have o2 := sl_out ho
    have o3 := sl_out hc
    have o4 := sl_out sxw
    have l3 := sl_len hc
    have l4 := sl_len sxw
    rw [List.length_map] at l4
    rw [hlen] at l3
    have hnn : ((ps.length : Int) != (ps.length : Int)) = false := by simp
    have hmi : ∀ i p, ps[i]? = some p -> (ps.map (turnP (s : Nat)))[i]? = some (turnP (s : Nat) p) := fun i p h => by rw [List.getElem?_map, h]; rfl
    have HMI := Lib.hid hmi
    have HO := Lib.hid ho
    have HC := Lib.hid hc
    have HSX := Lib.hid sxw
    have HOK := Lib.hid hok
    have HHO := Lib.hid hho
    have HS8 := Lib.hid hs8
    have HLEN := Lib.hid hlen
    have HORD := Lib.hid hord
    have HMX := Lib.hid hmax
    generalize hres : accB off hs ps (s : Nat) p = res
    have HR := Lib.hid hres
    clear hl ho hc m1 m2 m4 hms hin hok hln hlen a1 hx1 hmax sxw hmi hho hs8 hl4 hord hres
    generalize ps.map (turnP (s : Nat)) = xs at *
    generalize slN (xs.map ptC.enc) = xw at *
    refine ClR.walk (c := _) rfl Tryz.func36 rfl (by kernel_rfl) rfl isRet_fail ?_
    simp only [entryEnv, Nat.reduceAdd, emptyHp]
    repeat' (first | refine goS ?_ | (apply U6; exact Z1; exact Z1; (focus (simp only [List.nil_append, List.append_nil]; first | exact k32 _)); simp only [pM, pN, rR, rP]) | refine go2 (fun hh => ?_) (fun hh => ?_) | fail)
    refine W.loopN ps.length (fun i F => ∃ e lm, F = Fr.mk 36 false e lm ⟨0, .nil⟩ [] none /\ (∀ j, j < i -> offB off (turnP (s : Nat) (ps.getD (p.getD j 0) ⟨0, 0⟩)) (hs.getD j ⟨0, 0⟩) = true) /\ e.get 2 = some oa /\ e.get 3 = some ca /\ e.get 4 = some (.int .i64 off) /\ e.get 11 = some xw /\ e.get 12 = some (.int .i64 ↑i) /\ i <= ps.length) ?_ ?_
    ·refine ⟨_, _, rfl, fun j hj => absurd hj (by omega), ?_, ?_, ?_, ?_, ?_, ?_⟩ <;> first | exact Z2 | simp [go_sem, *]
    clear k32
    rintro i F ⟨e, lm, rfl, hall, h2, h3, h4, h11, h12, hi⟩
    have HALL := Lib.hid hall
    clear hall
    by_cases hlt : i < ps.length
    ·have hd : decide ((i : Int) < (ps.length : Int)) = true := by simpa using hlt
     have hw := wrap_succ hlt HMX.out
     obtain ⟨v, hv⟩ := get_some (show i < p.length by rw [HORD.out.len]; exact hlt)
     have hvn : v < ps.length := HORD.out.lt v (List.mem_of_getElem? hv)
     obtain ⟨a, ha⟩ := get_some hvn
     obtain ⟨q, hq⟩ := get_some (show i < hs.length by rw [HLEN.out]; exact hlt)
     have hpv : (p.map fun k : Nat => (k : Int))[i]? = some ((v : Nat) : Int) := by simp [hv]
     have hio := int_idx HO.out hpv
     have hix := pts_idx HSX.out (HMI.out v a ha)
     have hiy := pts_idx HC.out hq
     have hat := off_at (off := off) (t := (s : Nat)) hq hv ha
     have hof := off_eqw hof0 hof6 (turn_ok HS8.out (List.all_eq_true.1 HOK.out a (List.mem_of_getElem? ha))) (List.all_eq_true.1 HHO.out q (List.mem_of_getElem? hq))
     have hno := fun hh => acc_no (off := off) (t := (s : Nat)) hq hv ha hh
     generalize turnP (s : Nat) a = b at *
     have w1 : IntKind.i64.wrap (b.x - q.x) = w64 (b.x - q.x) := rfl
     have w2 : IntKind.i64.wrap (q.x - b.x) = w64 (q.x - b.x) := rfl
     have w3 : IntKind.i64.wrap (b.y - q.y) = w64 (b.y - q.y) := rfl
     have w4 : IntKind.i64.wrap (q.y - b.y) = w64 (q.y - b.y) := rfl
     generalize w64 (b.x - q.x) = z1 at *
     generalize w64 (q.x - b.x) = z2 at *
     generalize w64 (b.y - q.y) = z3 at *
     generalize w64 (q.y - b.y) = z4 at *
     have HAT := Lib.hid hat
     have HOF := Lib.hid hof
     have HNO := Lib.hid hno
     clear hv ha hq hpv hat hof hno
     have h5 : decide (z1 > off) = true \/ (decide (z1 > off) = false /\ decide (z2 > off) = true) \/ (decide (z1 > off) = false /\ decide (z2 > off) = false /\ decide (z3 > off) = true) \/ (decide (z1 > off) = false /\ decide (z2 > off) = false /\ decide (z3 > off) = false /\ decide (z4 > off) = true) \/
      (decide (z1 > off) = false /\ decide (z2 > off) = false /\ decide (z3 > off) = false /\ decide (z4 > off) = false) := by
      cases decide (z1 > off) <;> cases decide (z2 > off) <;> cases decide (z3 > off) <;> cases decide (z4 > off) <;> simp
     rcases h5 with x1 | ⟨x1, x2⟩ | ⟨x1, x2, x3⟩ | ⟨x1, x2, x3, x4⟩ | ⟨x1, x2, x3, x4⟩
     case inr.inr.inr.inr =>
      have HOK1 := Lib.hid (show offB off b q = true by rw [HOF.out, x1, x2, x3, x4]; rfl)
      repeat' (first | (apply W.draw (id := 7) (lc := [11, 12, 0, 1, 2, 3, 4, 5, 6, 7, 8, 9, 10, 13, 14]) (hot := [(9, 13), (10, 13)]); kernel_rfl; kernel_rfl; kernel_rfl; exact Z4) | (apply WD.alloc (o := ⟨some 13, .alloc 38, 0, _, _, none⟩); exact rfl; exact rfl; exact Z1; simp only [pM, pN]) | (apply WD.alloc (o := ⟨some 14, .alloc 38, 0, _, _, none⟩); exact rfl; exact rfl; exact Z1; simp only [pM, pN]) | (apply WD.cons (o := ⟨some 39, .load 38 (.tmp 38), 38, _, _, none⟩); exact rfl; exact rfl) | (apply WD.cons (o := ⟨none, .store 38 (.tmp 13) (.tmp 35), _, _, _, none⟩); exact rfl; exact rfl) | (apply WD.cons (o := ⟨none, .store 38 (.tmp 14) (.tmp 39), _, _, _, none⟩); exact rfl; exact rfl) | (refine WD.nil ⟨?_, ?_⟩; rotate_left; simp only [tN, bN, eN, true_and]) | (refine WD.cons rfl rfl ?_) | (refine calm_rd rfl rfl rfl rfl rfl ?_ ?_; (focus (first | exact Z2 | exact Z1))) | (with_reducible refine calm_end) | refine go1 ?_ | refine go2 (fun hh => ?_) (fun hh => ?_) | fail)
      refine ⟨hlt, _, _, rfl, fun j hj => ?_, ?_, ?_, ?_, ?_, ?_, by omega⟩
      ·rcases Nat.lt_or_ge j i with q | q
       ·exact HALL.out j q
       ·obtain rfl : j = i := by omega
        rw [HAT.out]; exact HOK1.out
      all_goals exact Z2
     all_goals (
      have HF := Lib.hid (show accB off hs ps (s : Nat) p = false from HNO.out (by rw [HOF.out]; simp [*]))
      repeat' (first | (apply W.draw (id := 7) (lc := [11, 12, 0, 1, 2, 3, 4, 5, 6, 7, 8, 9, 10, 13, 14]) (hot := [(9, 13), (10, 13)]); kernel_rfl; kernel_rfl; kernel_rfl; exact Z4) | (apply WD.alloc (o := ⟨some 13, .alloc 38, 0, _, _, none⟩); exact rfl; exact rfl; exact Z1; simp only [pM, pN]) | (apply WD.alloc (o := ⟨some 14, .alloc 38, 0, _, _, none⟩); exact rfl; exact rfl; exact Z1; simp only [pM, pN]) | (apply WD.cons (o := ⟨some 39, .load 38 (.tmp 38), 38, _, _, none⟩); exact rfl; exact rfl) | (apply WD.cons (o := ⟨none, .store 38 (.tmp 13) (.tmp 35), _, _, _, none⟩); exact rfl; exact rfl) | (apply WD.cons (o := ⟨none, .store 38 (.tmp 14) (.tmp 39), _, _, _, none⟩); exact rfl; exact rfl) | (refine WD.nil ⟨?_, ?_⟩; rotate_left; simp only [tN, bN, eN, true_and]) | (refine WD.cons rfl rfl ?_) | (refine calm_rd rfl rfl rfl rfl rfl ?_ ?_; (focus (first | exact Z2 | exact Z1))) | (with_reducible refine calm_end) | refine go1 ?_ | refine go2 (fun hh => ?_) (fun hh => ?_) | fail)
      all_goals (simp only [resV_def (X := dX cGH) Tryz.func36, Tryz.results36]; first | exact J5 | refine J6 ?_)
      rw [<- HR.out, HF.out])
    ·have hd : decide ((i : Int) < (ps.length : Int)) = false := by simpa using hlt
     have hii : i = ps.length := by omega
     have HA := Lib.hid (show accB off hs ps (s : Nat) p = true from all_yes fun j hj => HALL.out j (by rw [HLEN.out] at hj; omega))
     clear hii
     repeat' (first | refine goS ?_ | refine go2 (fun hh => ?_) (fun hh => ?_) | fail)
     all_goals (simp only [resV_def (X := dX cGH) Tryz.func36, Tryz.results36]; first | exact J5 | refine J6 ?_)
     rw [<- HR.out, HA.out]
   ·cases h
  ·cases h
 ·cases h
attribute [local irreducible] accB
theorem K36w {X : Ctx} (hX : X.intr 36 = some (flatFn sp36w)) (la r ca : AV) (hs ps : List Pt) (t : Nat) (off : Int) (p : List Nat) (hl : slV ptC la = some ps) (hc : slV ptC ca = some hs) (ht : t < 8) (hlen : hs.length = ps.length) (h4 : hs.length <= 4) (hh : hs.all (okPt 200) = true) (h8 : ps.all (okPt 80) = true) (h0 : 0 <= off) (h6 : off <= 6) (hp : IsOrd ps.length p) (h : Heap) (b : Blt h r 1 (natsV p)) :
  Cl X 36 [la, .int .i64 ↑t, r, ca, .int .i64 off] h (.ret (.bool (accB off hs ps (t : Nat) p)) h none) :=
 Cl.intr hX (by
  have e1 := b.seen (natsV_pur p)
  have e2 : slV intC (slN (natsV p)) = some (p.map fun k : Nat => (k : Int)) := by
   rw [natsV_ints]
   refine slV_slN ?_
   rw [List.length_map, hp.len]
   exact sl_max hl
  have hg : gd36w hs ps off (t : Nat) (p.map fun k : Nat => (k : Int)) = true := by
   unfold gd36w
   have q1 := nat_order (by omega) hp
   have q2 : pointsB ps hs.length hs.length 80 = true := by
    simp only [pointsB, Bool.and_eq_true]
    refine ⟨h8, ?_⟩
    simp [inB]
    omega
   rw [hh, q1, q2]
   simp [inB]
   omega
  have e3 : ∀ n, viewV h (.int .i64 n) = some (.int .i64 n) := fun n => view_pur rfl
  simp only [flatFn, viewVs, view_pur (sl_pur hl), view_pur (sl_pur hc), e1, e3, sp36w, hl, hc, e2, hg, if_true, toNat_map])
def drlB (err : Int) (hs ps : List Pt) : Bool := (List.range 8).any fun t : Nat => (lev ps.length ps.length).any (accB err hs ps (t : Nat))
def sp76 : List AV -> Option AV
 | [la, .agg [ha, .int .i64 err]] => match slV ptC la, slV ptC ha with
  | some hs, some ps => if (decide (hs.length = ps.length) && decide (1 <= ps.length) && decide (ps.length <= 4) && hs.all (okPt 200) && ps.all (okPt 80) && inB err 0 6) = true then some (.bool (drlB err hs ps)) else none
  | _, _ => none
 | _ => none
theorem p76 : ∀ args v, sp76 args = some v -> v.pur = true := by
 intro args v h
 unfold sp76 at h
 split at h
 ·split at h
  ·split at h
   ·have h := Option.some.inj h
    subst h
    rfl
   ·cases h
  ·cases h
 ·cases h
noncomputable def cJH : Itr
 | 36 => some (flatFn sp36w)
 | _ => none
theorem cJH_sound : Sound (dX cJH) := dX_sound (fun f g h => by
 unfold cJH at h
 split at h
 ·cases h; exact F36W
 ·cases h)
theorem any_no {α : Type} {l : List α} {f : α -> Bool} (h : ∀ (j : Nat) (q : α), l[j]? = some q -> f q = false) : l.any f = false := by
 rw [Bool.eq_false_iff]
 intro q
 obtain ⟨x, hx, hf⟩ := List.any_eq_true.1 q
 obtain ⟨i, hi, rfl⟩ := List.mem_iff_getElem.1 hx
 rw [h i _ (List.getElem?_eq_getElem hi)] at hf
 cases hf
set_option maxHeartbeats 4000000 in
theorem F76 : IntrFn Tryz.prog 76 (pureFn sp76) := by
 refine pure_fn (X := dX cJH) cJH_sound p76 ?_
 intro args v h
 unfold sp76 at h
 split at h
 ·rename_i la ha err
  split at h
  ·rename_i hs ps hl hr
   split at h
   ·rename_i hg
    have h := Option.some.inj h
    subst h
    simp only [Bool.and_eq_true, decide_eq_true_eq] at hg
    obtain ⟨⟨⟨⟨⟨hn, hn1⟩, hn4⟩, h200⟩, h80⟩, herr⟩ := hg
    have hoff : 0 <= err /\ err <= 6 := by simpa [inB] using herr
    have o1 := sl_out hl
    have o2 := sl_out hr
    have l1 := sl_len hl
    rw [hn] at l1
    have t1 := (slV_is hl).1.tup
    have t2 := (slV_is hr).1.tup
    have c2 := (slV_is hr).1.cells
    have hcl0 := C129 cJH rfl ps.length hn1 hn4 ⟨0, .nil⟩
    unfold ClR at hcl0
    obtain ⟨rr, hcl, hcr⟩ := hcl0
    unfold ordsR at hcr
    obtain ⟨es, hz, rfl, hzx, hel⟩ := hcr
    have HEL := Lib.hid hel
    have H36 := Lib.hid (fun (t : Nat) (r : AV) (p : List Nat) (ht : t < 8) (hp : IsOrd ps.length p) (b : Blt hz r 1 (natsV p)) => K36w (X := dX cJH) rfl ha r la hs ps t err p hr hl ht hn (by omega) h200 h80 hoff.1 hoff.2 hp hz b)
    have hes : es.length <= 256 := by
     have h1 := hel.1
     have h2 := lev_small hn4 ps.length hn4
     have h3 : 4 ^ ps.length <= 4 ^ 4 := Nat.pow_le_pow_right (by omega) hn4
     omega
    have HES := Lib.hid hes
    generalize hres : drlB err hs ps = res
    have HRES := Lib.hid hres
    simp only [isTuple] at t1 t2
    simp only [AV.cells] at c2
    clear hl hr hn hn1 hn4 hzx hel hes hres h200 h80 herr hoff
    refine ClR.walk (c := _) rfl Tryz.func76 rfl (by kernel_rfl) rfl isRet_fail ?_
    simp only [entryEnv, Nat.reduceAdd, emptyHp]
    repeat' (first | (apply U6; exact Z1; exact Z1; (focus (exact hcl)); simp only [pM, pN, rR, rP]) | refine go1 ?_ | refine go2 (fun hh => ?_) (fun hh => ?_) | fail)
    refine W.loopN 8 (fun t F => ∃ e lm, F = Fr.mk 76 false e lm hz [] none /\ (∀ u : Nat, u < t -> (lev ps.length ps.length).any (accB err hs ps (u : Nat)) = false) /\ lm.get 3 = some (0, [ha, .int .i64 err]) /\ e.get 0 = some la /\ e.get 3 = some (.lptr 3 0 0) /\ e.get 5 = some (.vslice es) /\ e.get 6 = some (.int .i64 ↑t) /\ t <= 8) ?_ ?_
    ·refine ⟨_, _, rfl, fun j hj => absurd hj (by omega), ?_, ?_, ?_, ?_, ?_, ?_⟩ <;> first | exact Z2 | simp [go_sem, *]
    clear hcl
    rintro t F ⟨e, lm, rfl, hno, m2, h1, h2, h6, h7, ht⟩
    have HNO := Lib.hid hno
    clear hno
    by_cases ht8 : t < 8
    ·have hd : decide ((t : Int) < 8) = true := by simp; omega
     have hw := wrap_succ (m := 8) ht8 (by unfold maxL; omega)
     repeat' (first | refine goS ?_ | refine go2 (fun hh => ?_) (fun hh => ?_) | fail)
     refine W.loopN es.length (fun k F => ∃ e lm, F = Fr.mk 76 false e lm hz [] none /\ (∀ (j : Nat) (q : List Nat), j < k -> (lev ps.length ps.length)[j]? = some q -> accB err hs ps (t : Nat) q = false) /\ lm.get 3 = some (0, [ha, .int .i64 err]) /\ e.get 0 = some la /\ e.get 3 = some (.lptr 3 0 0) /\ e.get 5 = some (.vslice es) /\ e.get 6 = some (.int .i64 ↑t) /\ e.get 7 = some (.int .i64 ↑k) /\ k <= es.length) ?_ ?_
     ·refine ⟨_, _, rfl, fun j q hj => absurd hj (by omega), ?_, ?_, ?_, ?_, ?_, ?_, ?_⟩ <;> first | exact Z2 | simp [go_sem, *]
     clear m2 h1 h2 h6 h7 hd
     rintro k F ⟨e, lm, rfl, hno2, m2, h1, h2, h6, h7, h8, hk⟩
     have HNO2 := Lib.hid hno2
     clear hno2
     by_cases hkl : k < es.length
     ·have hd : decide ((k : Int) < (es.length : Int)) = true := by simpa using hkl
      have hw2 := wrap_succ (m := es.length) hkl (by have := HES.out; unfold maxL; omega)
      obtain ⟨r, hr⟩ := get_some hkl
      obtain ⟨p, hp⟩ := get_some (show k < (lev ps.length ps.length).length by rw [<- HEL.out.1]; exact hkl)
      have hBr : Blt hz r 1 (natsV p) := HEL.out.2 k r p hr hp
      have hpm := List.mem_of_getElem? hp
      have hord : IsOrd ps.length p := ⟨lev_len _ p hpm, (lev_ord (p := p) _ p hpm).2, (lev_ord (p := p) _ p hpm).1⟩
      have hix : indexAddrV Tryz.prog hz 194 (.vslice es) (.int .i64 ↑k) = some (.vptr [r]) := by
       have : idxV (.int .i64 (k : Int)) es.length = some k := by simp [idxV, hkl]
       simp only [indexAddrV, Tryz.underlying194, ty_lay39, this, hr, hBr.cells, List.length_cons, List.length_nil, Nat.zero_add, if_true]
      have cr := hBr.cells
      have orr := hBr.out
      have tr := hBr.tup
      have k36 := H36.out t r p ht8 hord hBr
      simp only [AV.cells] at cr
      simp only [isTuple] at tr
      have HP := Lib.hid hp
      clear hr hp hBr hord
      have hyes : accB err hs ps (t : Nat) p = true -> drlB err hs ps = true := fun q => by
       unfold drlB
       exact List.any_eq_true.2 ⟨t, List.mem_range.2 ht8, List.any_eq_true.2 ⟨p, hpm, q⟩⟩
      have HY := Lib.hid hyes
      clear hpm hyes
      generalize hac : accB err hs ps (t : Nat) p = ac at *
      have HAC := Lib.hid hac
      have HK36 := Lib.hid k36
      clear hac k36
      cases ac with
      | false =>
       repeat' (first | (apply W.drawQ (id := 8) (l1 := [0, 1, 2, 3, 4, 5, 6, 7, 8, 9, 10]) (l2 := []); kernel_rfl; kernel_rfl; kernel_rfl; exact Z4) | refine go1 ?_ | (apply U6; exact Z1; exact Z1; (focus (simp only [List.nil_append, List.append_nil]; first | exact HK36.out)); simp only [pM, pN, rR, rP]) | refine go2 (fun hh => ?_) (fun hh => ?_) | fail)
       refine ⟨hkl, _, _, rfl, fun j q hj hq => ?_, ?_, ?_, ?_, ?_, ?_, ?_, by omega⟩
       ·rcases Nat.lt_or_ge j k with c | c
        ·exact HNO2.out j q c hq
        ·obtain rfl : j = k := by omega
         have := HP.out.symm.trans hq
         cases this
         exact HAC.out
       all_goals exact Z2
      | true =>
       repeat' (first | (apply W.drawQ (id := 8) (l1 := [0, 1, 2, 3, 4, 5, 6, 7, 8, 9, 10]) (l2 := []); kernel_rfl; kernel_rfl; kernel_rfl; exact Z4) | refine go1 ?_ | (apply U6; exact Z1; exact Z1; (focus (simp only [List.nil_append, List.append_nil]; first | exact HK36.out)); simp only [pM, pN, rR, rP]) | refine go2 (fun hh => ?_) (fun hh => ?_) | fail)
       all_goals (simp only [resV_def (X := dX cJH) Tryz.func76, Tryz.results76]; first | exact J5 | refine J6 ?_)
       rw [<- HRES.out, HY.out rfl]
     ·have hd : decide ((k : Int) < (es.length : Int)) = false := by simpa using hkl
      have HF := Lib.hid (any_no (l := lev ps.length ps.length) (f := accB err hs ps (t : Nat)) fun j q hq => HNO2.out j q (by
       have h1 := HEL.out.1
       have h2 : j < (lev ps.length ps.length).length := by
        rcases Nat.lt_or_ge j (lev ps.length ps.length).length with c | c
        ·exact c
        ·rw [List.getElem?_eq_none c] at hq; cases hq
       omega) hq)
      clear hkl hk
      repeat' (first | refine goS ?_ | refine go2 (fun hh => ?_) (fun hh => ?_) | fail)
      refine ⟨ht8, _, _, rfl, fun u hu => ?_, ?_, ?_, ?_, ?_, ?_, by omega⟩
      ·rcases Nat.lt_or_ge u t with c | c
       ·exact HNO.out u c
       ·obtain rfl : u = t := by omega
        exact HF.out
      all_goals exact Z2
    ·have hd : decide ((t : Int) < 8) = false := by simp; omega
     have HT := Lib.hid (show t = 8 by omega)
     clear ht8 ht
     have HFN := Lib.hid (show drlB err hs ps = false by
      unfold drlB
      rw [Bool.eq_false_iff]
      intro q
      obtain ⟨u, hu, hf⟩ := List.any_eq_true.1 q
      rw [HNO.out u (by have := HT.out; have := List.mem_range.1 hu; omega)] at hf
      cases hf)
     repeat' (first | refine goS ?_ | refine go2 (fun hh => ?_) (fun hh => ?_) | fail)
     all_goals (simp only [resV_def (X := dX cJH) Tryz.func76, Tryz.results76]; first | exact J5 | refine J6 ?_)
     rw [<- HRES.out, HFN.out]
   ·cases h
  ·cases h
 ·cases h
theorem K76 {X : Ctx} (hX : X.intr 76 = some (pureFn sp76)) (la ha : AV) (hs ps : List Pt) (err : Int) (hl : slV ptC la = some hs) (hr : slV ptC ha = some ps) (hg : hs.length = ps.length /\ 1 <= ps.length /\ ps.length <= 4) (h200 : hs.all (okPt 200) = true) (h80 : ps.all (okPt 80) = true) (h0 : 0 <= err) (h4 : err <= 4) (h : Heap) :
  Cl X 76 [la, .agg [ha, .int .i64 err]] h (.ret (.bool (drlB err hs ps)) h none) :=
 Cl.intr hX (by
  have e : (decide (hs.length = ps.length) && decide (1 <= ps.length) && decide (ps.length <= 4) && hs.all (okPt 200) && ps.all (okPt 80) && inB err 0 6) = true := by
   rw [h200, h80]
   simp [inB]
   omega
  simp only [pureFn, AV.pur, AV.purL, sl_pur hl, sl_pur hr, Bool.and_self, if_true, sp76, hl, hr, e])
end Go.AM
namespace Go.AM
open Go
variable [Keep]
attribute [local irreducible] boundsS refBoxes boxL minT addU suitB machB posH
theorem agree_box {ss hs : List Pt} {err a b : Int} {t : Nat} {o : List Nat} (h20 : ss.all (okPt 20) = true) (h80 : hs.all (okPt 80) = true) (h0 : 0 <= err) (h4 : err <= 4) (hn : 1 <= ss.length) (ht : t < 8) (ho : IsOrd ss.length o)
  (ha : -80 <= a /\ a <= 80) (hb : -80 <= b /\ b <= 80) (hac : accB err (movedL ss a b) hs (t : Nat) o = true) : ∃ y ∈ boxL err ss hs, inBx a b y := by
 obtain ⟨h1, h2⟩ := boxOn_ref h20 h80 h0 h4 hn ht o
 have hin : inBx a b (refBx err ss hs t o ss.length) := by
  rw [refBx_fold]
  refine fold_in _ _ (fun y hy => ?_) ⟨⟨?_, ?_⟩, ⟨?_, ?_⟩⟩
  ·obtain ⟨i, hi, rfl⟩ := List.mem_map.1 hy
   have hil : i < ss.length := by simpa using hi
   obtain ⟨s, hs'⟩ := get_some hil
   rw [(now_ref h20 h80 h0 h4 hn ht o i).2]
   have e1 : ss.getD i ⟨0, 0⟩ = s := by simp [List.getD, hs']
   have hok : okPt 80 (hs.getD (o.getD i 0) ⟨0, 0⟩) = true := getD_ok h20 h80 h0 h4 hn h80 (by decide)
   have h20s : okPt 20 s = true := List.all_eq_true.1 h20 s (List.mem_of_getElem? hs')
   have htk := turn_ok ht hok
   have hal : offB err (turnP (t : Nat) (hs.getD (o.getD i 0) ⟨0, 0⟩)) ((movedL ss a b).getD i ⟨0, 0⟩) = true := by
    unfold accB at hac
    exact List.all_eq_true.1 hac i (List.mem_range.2 (by simpa [movedL] using hil))
   have e3 : (movedL ss a b).getD i ⟨0, 0⟩ = ⟨w64 (s.x + a), w64 (s.y + b)⟩ := by simp [movedL, List.getD, hs']
   rw [e3] at hal
   rw [e1, (nowB_bd h20s htk h0 h4).2]
   generalize turnP (t : Nat) (hs.getD (o.getD i 0) ⟨0, 0⟩) = p at *
   have hs2 : (-20 <= s.x /\ s.x <= 20) /\ (-20 <= s.y /\ s.y <= 20) := by
    have e : w64 (-20) = -20 := rfl
    simpa only [okPt, inB, e, Bool.and_eq_true, decide_eq_true_eq] using h20s
   rw [ok80] at htk
   have w1 : w64 (s.x + a) = s.x + a := wrap_small (by omega) (by omega)
   have w2 : w64 (s.y + b) = s.y + b := wrap_small (by omega) (by omega)
   have w3 : w64 (p.x - (s.x + a)) = p.x - (s.x + a) := wrap_small (by omega) (by omega)
   have w4 : w64 (p.y - (s.y + b)) = p.y - (s.y + b) := wrap_small (by omega) (by omega)
   have w5 : w64 (-err) = -err := wrap_small (by omega) (by omega)
   simp only [offB, okPt, inB, w1, w2, w3, w4, w5, Bool.and_eq_true, decide_eq_true_eq] at hal
   unfold inBx inS
   simp only
   omega
  all_goals simp only [wideB, wideS]; omega
 refine ⟨refBx err ss hs t o ss.length, ?_, hin⟩
 unfold boxL
 refine List.mem_flatMap.2 ⟨t, List.mem_range.2 ht, List.mem_filterMap.2 ⟨o, ord_mem ho, ?_⟩⟩
 rw [h1, inBx_ne hin]
 rfl
theorem drl_box {ss hs : List Pt} {err a b : Int} (h20 : ss.all (okPt 20) = true) (h80 : hs.all (okPt 80) = true) (h0 : 0 <= err) (h4 : err <= 4) (hn : 1 <= ss.length) (hlen : hs.length = ss.length)
  (ha : -80 <= a /\ a <= 80) (hb : -80 <= b /\ b <= 80) (hd : drlB err (movedL ss a b) hs = true) : ∃ y ∈ boxL err ss hs, inBx a b y := by
 unfold drlB at hd
 obtain ⟨t, ht, hd⟩ := List.any_eq_true.1 hd
 obtain ⟨o, ho, hd⟩ := List.any_eq_true.1 hd
 have ho' : IsOrd ss.length o := by
  rw [hlen] at ho
  exact ⟨lev_len _ o ho, (lev_ord (p := o) _ o ho).2, (lev_ord (p := o) _ o ho).1⟩
 exact agree_box h20 h80 h0 h4 hn (List.mem_range.1 ht) ho' ha hb hd
theorem could_mem {p : Nat -> Bool} {n : Nat} (h1 : 1 <= n) (h2 : n <= 12) (hp : p n = true) : n ∈ couldN p 12 := by
 unfold couldN
 obtain ⟨i, rfl⟩ : ∃ i, n = i + 1 := ⟨n - 1, by omega⟩
 exact List.mem_map.2 ⟨i, List.mem_filter.2 ⟨List.mem_range.2 (by omega), hp⟩, rfl⟩
section
variable {st : List Pt} {cx cy wx wy : Sp} {rs : List Rdg} (h : machB st cx cy wx wy rs = true) {l : List BA} (hl : ∀ b ∈ l, suitB (machB st cx cy wx wy rs) st b.holes b.err = true)
include h hl
theorem ddB_bd : ∀ b ∈ l, ∀ y ∈ ddB st b, BdB y := fun b hb y hy => by
 obtain ⟨p1, p2, p3, p4, p5⟩ := suit_pts (hl b hb)
 have e : refBoxes b.err st b.holes 8 = ddB st b := refBoxes_dd p1 p2 p3 p4 p5
 rw [<- e] at hy
 exact (any_ref (hl b hb) fun _ => true).2 y hy
theorem ddB_any : ∀ b ∈ l, ∀ p : Bx -> Bool, (ddB st b).any p = (boxL b.err st b.holes).any p := fun b hb p => by
 obtain ⟨p1, p2, p3, p4, p5⟩ := suit_pts (hl b hb)
 have e : refBoxes b.err st b.holes 8 = ddB st b := refBoxes_dd p1 p2 p3 p4 p5
 rw [<- e]
 exact (any_ref (hl b hb) p).1
theorem first_law {s : List Nat} (hs : refT (posH cx cy wx wy rs) (l.map (ddB st)) [] [] = some s) : s.length = l.length /\ (∀ k ∈ s, 1 <= k /\ k <= 12) /\ s.Nodup /\
  ∀ (j : Nat) (b : BA) (n : Nat), l[j]? = some b -> s[j]? = some n -> n ∈ couldN (fun n => (boxL b.err st b.holes).any (canB cx cy wx wy rs n)) 12 := by
 have hf := ((refT_spec _ _ _ _).2 s hs).1
 obtain ⟨f1, f2, f3⟩ := feas_is _ _ _ _ _ hf
 rw [List.length_map] at f1
 refine ⟨f1, fun k hk => (f2 k hk).1, f3, fun j b n hj hn => ?_⟩
 have hb := List.mem_of_getElem? hj
 obtain ⟨y, hy, ms, hp, hm, hq⟩ := feas_at (posH cx cy wx wy rs) HeldOk _ _ _ _ (fun m hm => by simp at hm) (fun bs hbs y hy i hi => by
  obtain ⟨b', hb', rfl⟩ := List.mem_map.1 hbs
  exact held_box (by omega) (ddB_bd h hl b' hb' y hy)) hf j (ddB st b) n (by rw [List.getElem?_map, hj]; rfl) hn
 have hone := posH_sub (ms' := [heldB n y]) h hq (fun m q => by simp only [List.mem_singleton] at q; subst q; exact hm) hp
 rw [posH_one] at hone
 have hnk := (f2 n (List.mem_of_getElem? hn)).1
 refine could_mem hnk.1 hnk.2 ?_
 rw [<- ddB_any h hl b hb]
 exact List.any_eq_true.2 ⟨y, hy, hone⟩
theorem first_true {xs ys : List Int} (ht : truthB xs ys = true) (hf : fitsM cx cy wx wy rs xs ys = true) {blanks : List Nat} (hln : blanks.length = l.length) (hk : ∀ k ∈ blanks, 1 <= k /\ k <= 12) (hnd : blanks.Nodup)
  (hd : ∀ (j : Nat) (b : BA) (n : Nat), l[j]? = some b -> blanks[j]? = some n -> drlB b.err (movedL st (xs.getD n 0) (ys.getD n 0)) b.holes = true) :
  ∃ s, refT (posH cx cy wx wy rs) (l.map (ddB st)) [] [] = some s /\ lexB blanks s = false := by
 obtain ⟨_, _, n1, n2⟩ := truth_of ht
 have hfe : FeasT (posH cx cy wx wy rs) (l.map (ddB st)) [] [] blanks := by
  refine feas_true _ (HeldT xs ys) (fun ms hm => posH_true h ht hf hm) _ _ _ _ (by rw [hln, List.length_map]) (fun k q => ⟨hk k q, by simp⟩) hnd (fun j bs n hj hn => ?_) (fun m hm => by simp at hm)
  rw [List.getElem?_map, Option.map_eq_some_iff] at hj
  obtain ⟨b, hj, rfl⟩ := hj
  have hb := List.mem_of_getElem? hj
  obtain ⟨p1, p2, p3, p4, p5⟩ := suit_pts (hl b hb)
  have hlen := (suit_small (hl b hb)).2.2.1
  obtain ⟨y, hy, hin⟩ := drl_box p1 p2 p3 p4 p5 hlen (num_small n1 n) (num_small n2 n) (hd j b n hj hn)
  have hany : (ddB st b).any (fun y => inB (xs.getD n 0) y.x.lo y.x.hi && inB (ys.getD n 0) y.y.lo y.y.hi) = true := by
   rw [ddB_any h hl b hb]
   refine List.any_eq_true.2 ⟨y, hy, ?_⟩
   unfold inBx inS at hin
   simp only [inB, Bool.and_eq_true, decide_eq_true_eq]
   omega
  obtain ⟨y', hy', hin'⟩ := List.any_eq_true.1 hany
  have hnk := hk n (List.mem_of_getElem? hn)
  refine ⟨y', hy', held_box (by omega) (ddB_bd h hl b hb y' hy'), n, y', rfl, ?_⟩
  unfold inBx inS
  simp only [inB, Bool.and_eq_true, decide_eq_true_eq] at hin'
  omega
 have sp := refT_spec (posH cx cy wx wy rs) (l.map (ddB st)) [] []
 cases q : refT (posH cx cy wx wy rs) (l.map (ddB st)) [] [] with
 | none => exact absurd hfe (sp.1 q blanks)
 | some s => exact ⟨s, rfl, (sp.2 s q).2 blanks hfe⟩
end
end Go.AM
