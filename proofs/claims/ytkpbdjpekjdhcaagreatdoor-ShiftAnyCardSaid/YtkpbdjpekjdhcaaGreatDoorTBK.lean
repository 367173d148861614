/-
  A part of the proof: contracts of functions.
-/
import Derived.Test.YtkpbdjpekjdhcaaGreatDoorTBJ
import Derived.Test.YtkpbdjpekjdhcaaGreatDoorTAF
set_option linter.unusedSectionVars false
set_option linter.unusedVariables false
set_option linter.unusedSimpArgs false
set_option maxRecDepth 100000
namespace Go.AM
open Go Go.Proofs
variable [Keep]
attribute [local irreducible] W WO WO1 WD WQ WT thenQ blockQ endR isRet retK Cl ClR
open Go.TX (Rm Fa Ha Hs mapO mapO_len)
attribute [local irreducible] roundQ RdR houseB airS failsH hasB allP
theorem mostF_nil : ∀ gs : List (List (List Int) × List (List Int)), mostF [] 0 gs = some 0
 | [] => rfl
 | g :: gs => by
  have := mostF_nil gs
  unfold mostF
  simp only [List.length_nil, brG, maxV]
  exact this
attribute [local irreducible] pathB
structure DayOk (m : Hs) (ra fa oa ha aa : AV) (mid c9 : Nat) (h : Heap) : Prop where
 cell : h.get c9 = some (.var [.int .i64 m.hours, ra, fa, oa, ha, aa, .map mid])
 all : slV fkC aa = some ((failsH m).map Fl.tell)
 mp : ∃ l, h.get mid = some (.mp (entE m l)) ∧ ∀ f ∈ failsH m, f ∈ l
theorem K140d {X : Ctx} (hX : X.intr 140 = some go140) {m : Hs} (ho : HOk m) {ra fa oa ha aa pa : AV} {mid c9 : Nat} {h : Heap} {p : List Int} (hd : DayOk m ra fa oa ha aa mid c9 h) (hp : pthV h pa = some p) (hb : pathB m p = true) :
  Cl X 140 [.agg [.int .i64 m.hours, ra, fa, oa, ha, aa, .map mid, pa]] h (.ret (.int .i64 (mostP m p)) h none) := by
 obtain ⟨l, hg, hl⟩ := hd.mp
 have h1 := mapO_dust ho hg hl
 have h2 := air_most ho hb
 unfold gsH at h2
 have h3 := hd.all
 exact Cl.intr hX (by simp only [go140, h3, hp, h1, h2]; rfl)
theorem K140n {X : Ctx} (hX : X.intr 140 = some go140) {m : Hs} (ho : HOk m) {ra fa oa ha aa : AV} {mid c9 : Nat} {h : Heap} (hd : DayOk m ra fa oa ha aa mid c9 h) :
  Cl X 140 [.agg [.int .i64 m.hours, ra, fa, oa, ha, aa, .map mid, .nilslice]] h (.ret (.int .i64 0) h none) := by
 obtain ⟨l, hg, hl⟩ := hd.mp
 have h1 := mapO_dust ho hg hl
 have h3 := hd.all
 have hp : pthV h .nilslice = some [] := rfl
 exact Cl.intr hX (by simp only [go140, h3, hp, h1, mostF_nil])
section
variable {c : Itr}
theorem C119 (h119 : c 119 = none) (a b : Int) (h : Heap) : Cl (dX c) 119 [.int .i64 a, .int .i64 b] h (.ret (.bool (decide (a > b))) h none) := by
 refine ClR.cl ?_
 refine ClR.walk (c := _) h119 Tryz.func119 rfl (by kernel_rfl) rfl (fun e => by cases e) ?_
 try simp only [entryEnv, Nat.reduceAdd, List.nil_append, List.cons_append, emptyHp]
 repeat' (first | refine goS ?_ | refine go2 (fun hh => ?_) (fun hh => ?_) | fail)
 all_goals (simp only [resV_def (X := dX c) Tryz.func119, Tryz.results119]; first | exact J5 | refine J6 ?_)
 all_goals rfl
theorem C120 (h120 : c 120 = none) (a b : Int) (h : Heap) : Cl (dX c) 120 [.int .i64 a, .int .i64 b] h (.ret (.bool (decide (a < b))) h none) := by
 refine ClR.cl ?_
 refine ClR.walk (c := _) h120 Tryz.func120 rfl (by kernel_rfl) rfl (fun e => by cases e) ?_
 try simp only [entryEnv, Nat.reduceAdd, List.nil_append, List.cons_append, emptyHp]
 repeat' (first | refine goS ?_ | refine go2 (fun hh => ?_) (fun hh => ?_) | fail)
 all_goals (simp only [resV_def (X := dX c) Tryz.func120, Tryz.results120]; first | exact J5 | refine J6 ?_)
 all_goals rfl
theorem C163 (h163 : c 163 = none) {m : Hs} {ra fa oa ha aa pa : AV} {mid c9 : Nat} {h : Heap} (hd : DayOk m ra fa oa ha aa mid c9 h) (o1 : outV (some ra) = some ra) (o2 : outV (some fa) = some fa) (o3 : outV (some oa) = some oa) (o4 : outV (some ha) = some ha) (opa : outV (some pa) = some pa) (cpa : pa.cells = [pa]) (tpa : isTuple pa = false) (n : Int)
  (k140 : Cl (dX c) 140 [.agg [.int .i64 m.hours, ra, fa, oa, ha, aa, .map mid, pa]] h (.ret (.int .i64 n) h none)) :
  Cl (dX c) 163 (([] ++ [pa]) ++ [.ptr c9 0]) h (.ret (.int .i64 n) h none) := by
 refine ClR.cl ?_
 have g := hd.cell
 have o5 := sl_out hd.all
 simp only [AV.cells] at cpa
 simp only [isTuple] at tpa
 clear hd
 refine ClR.walk (c := _) h163 Tryz.func163 rfl (by kernel_rfl) rfl (fun e => by cases e) ?_
 try simp only [entryEnv, Nat.reduceAdd, List.nil_append, List.cons_append, emptyHp]
 repeat' (first | refine goS ?_ | (apply U6; exact Z1; exact Z1; (focus (simp only [List.nil_append, List.append_nil]; first | exact k140)); simp only [pM, pN, rR, rP]) | refine go2 (fun hh => ?_) (fun hh => ?_) | fail)
 all_goals (simp only [resV_def (X := dX c) Tryz.func163, Tryz.results163]; first | exact J5 | refine J6 ?_)
 all_goals rfl
def btF (w : Bool) : FuncId := if w = true then 119 else 120
theorem C166 (h166 : c 166 = none) (h119 : c 119 = none) (h120 : c 120 = none) (w : Bool) (pa qa : AV) (c5 c9 c10 : Nat) (h : Heap) (x y : Int) (g5 : h.get c5 = some (.var [.func (.func (btF w)) [] []])) (g10 : h.get c10 = some (.var [.func (.func 163) [] [.ptr c9 0]])) (op : outV (some pa) = some pa) (oq : outV (some qa) = some qa)
  (hcl1 : Cl (dX c) 163 (([] ++ [pa]) ++ [.ptr c9 0]) h (.ret (.int .i64 x) h none)) (hcl2 : Cl (dX c) 163 (([] ++ [qa]) ++ [.ptr c9 0]) h (.ret (.int .i64 y) h none)) :
  Cl (dX c) 166 (([] ++ [pa, qa]) ++ [.ptr c5 0, .ptr c10 0]) h (.ret (.bool (btW w x y)) h none) := by
 refine ClR.cl ?_
 unfold btW
 cases w with
 | true =>
  have hbt := fun h => C119 (c := c) h119 x y h
  simp only [btF, if_true] at g5 ⊢
  generalize decide (x > y) = b at *
  refine ClR.walk (c := _) h166 Tryz.func166 rfl (by kernel_rfl) rfl (fun e => by cases e) ?_
  try simp only [entryEnv, Nat.reduceAdd, List.nil_append, List.cons_append, emptyHp]
  repeat' (first | (apply W.drawQ (id := 1) (l1 := [0, 1, 2, 3, 4, 5, 6, 7, 8]) (l2 := []); kernel_rfl; kernel_rfl; kernel_rfl; exact Z4) | refine go1 ?_ | (apply U6; exact Z1; exact Z1; (focus (simp only [List.nil_append, List.append_nil]; first | exact hcl1 | exact hcl2 | exact hbt _)); simp only [pM, pN, rR, rP]) | refine go2 (fun hh => ?_) (fun hh => ?_) | fail)
  all_goals (simp only [resV_def (X := dX c) Tryz.func166, Tryz.results166]; first | exact J5 | refine J6 ?_)
  all_goals rfl
 | false =>
  have hbt := fun h => C120 (c := c) h120 x y h
  simp only [btF, Bool.false_eq_true, if_false] at g5 ⊢
  generalize decide (x < y) = b at *
  refine ClR.walk (c := _) h166 Tryz.func166 rfl (by kernel_rfl) rfl (fun e => by cases e) ?_
  try simp only [entryEnv, Nat.reduceAdd, List.nil_append, List.cons_append, emptyHp]
  repeat' (first | (apply W.drawQ (id := 1) (l1 := [0, 1, 2, 3, 4, 5, 6, 7, 8]) (l2 := []); kernel_rfl; kernel_rfl; kernel_rfl; exact Z4) | refine go1 ?_ | (apply U6; exact Z1; exact Z1; (focus (simp only [List.nil_append, List.append_nil]; first | exact hcl1 | exact hcl2 | exact hbt _)); simp only [pM, pN, rR, rP]) | refine go2 (fun hh => ?_) (fun hh => ?_) | fail)
  all_goals (simp only [resV_def (X := dX c) Tryz.func166, Tryz.results166]; first | exact J5 | refine J6 ?_)
  all_goals rfl
theorem C165 (h165 : c 165 = none) (n : Int) (ra fa oa ha da : AV) (h1 : outV (some ra) = some ra) (h2 : outV (some fa) = some fa) (h3 : outV (some oa) = some oa) (h4 : outV (some ha) = some ha) (h5 : outV (some da) = some da) (hcs : da.cells = [da]) (htu : isTuple da = false) (hn : Nat) (hmm : Mp Blk) :
  Cl (dX c) 165 [.agg [.int .i64 n, ra, fa, oa, ha], da] ⟨hn, hmm⟩ (.ret (.func (.func 193) [] [.ptr hn 0, .ptr (hn + 1) 0]) ⟨hn + 1 + 1, (hmm.set hn (.var [.int .i64 n, ra, fa, oa, ha])).set (hn + 1) (.var [da])⟩ none) := by
 refine ClR.cl ?_
 simp only [AV.cells] at hcs
 simp only [isTuple] at htu
 refine ClR.walk (c := _) h165 Tryz.func165 rfl (by kernel_rfl) rfl (fun e => by cases e) ?_
 try simp only [entryEnv, Nat.reduceAdd, List.nil_append, List.cons_append, emptyHp]
 repeat' (first | refine goS ?_ | refine go2 (fun hh => ?_) (fun hh => ?_) | fail)
 all_goals (simp only [resV_def (X := dX c) Tryz.func165, Tryz.results165]; first | exact J5 | refine J6 ?_)
 all_goals rfl
def BO (m : Hs) (h : Heap) (v : AV) (o : Option (List Int)) : Prop := (o = none ∧ v = .nilslice) ∨ ∃ p, o = some p ∧ Blt h v 1 (intsE p) ∧ pathB m p = true ∧ p.length ≤ 1000
theorem BO.ext {m : Hs} {h h' : Heap} {v : AV} {o : Option (List Int)} (b : BO m h v o) (x : HExt h h') : BO m h' v o := by
 rcases b with q | ⟨p, h1, h2, h3⟩
 ·exact .inl q
 ·exact .inr ⟨p, h1, h2.ext x, h3⟩
theorem BO.parts {m : Hs} {h : Heap} {v : AV} {o : Option (List Int)} (b : BO m h v o) : outV (some v) = some v ∧ v.cells = [v] ∧ isTuple v = false := by
 rcases b with ⟨_, rfl⟩ | ⟨p, h1, h2, h3⟩
 ·exact ⟨rfl, rfl, rfl⟩
 ·rcases h2 with ⟨rfl, _⟩ | ⟨id, rfl, _⟩ <;> exact ⟨rfl, rfl, rfl⟩
def bstI (m : Hs) (a b : Nat) (o : Option (List Int)) (h : Heap) : Prop := h.get b = some (.var [.bool o.isSome]) ∧ (∃ v, h.get a = some (.var [v]) ∧ BO m h v o) ∧ a < h.next ∧ b < h.next
theorem bst_ok (m : Hs) (a b : Nat) : OwnOk (bstI m a b) (twoO a b) := by
 refine ⟨fun s h h' i x => ⟨?_, fun id ho => ho⟩, fun s h h' L i no nr hn hg => ⟨?_, fun id ho => ho⟩, fun s h id i ho => ?_⟩
 ·obtain ⟨i1, ⟨v, i2, i3⟩, i4, i5⟩ := i
  exact ⟨(x.2 b i5).trans i1, ⟨v, (x.2 a i4).trans i2, i3.ext x⟩, Nat.lt_of_lt_of_le i4 x.1, Nat.lt_of_lt_of_le i5 x.1⟩
 ·obtain ⟨i1, ⟨v, i2, i3⟩, i4, i5⟩ := i
  refine ⟨(hg b (fun e => no (.inr e.symm))).trans i1, ⟨v, (hg a (fun e => no (.inl e.symm))).trans i2, ?_⟩, by rw [hn]; exact i4, by rw [hn]; exact i5⟩
  rcases i3 with q | ⟨p, h1, h2, h3⟩
  ·exact .inl q
  ·exact .inr ⟨p, h1, h2.lp nr hn hg, h3⟩
 ·obtain ⟨i1, _, i4, i5⟩ := i
  rcases ho with rfl | rfl
  ·exact i4
  ·exact i5
def bestR (m : Hs) (h : Heap) (o : Option (List Int)) (r : COut) : Prop := ∃ v h', r = .ret v h' none ∧ BO m h' v o ∧ HExt h h'
theorem bestR_fail {m : Hs} {h : Heap} {o : Option (List Int)} : ¬ bestR m h o .fail := by rintro ⟨_, _, e, _⟩; cases e
set_option maxHeartbeats 16000000 in
theorem C164 (h164 : c 164 = none) (h193 : c 193 = none) (h87 : c 87 = none) (h138 : c 138 = none) (h139 : c 139 = none) (h96 : c 96 = none) (h194 : c 194 = none) (h144 : c 144 = some (flatFnD sp144)) (h163 : c 163 = none) (h166 : c 166 = none) (h119 : c 119 = none) (h120 : c 120 = none) (h140 : c 140 = some go140)
  (m : Hs) (ho : HOk m) (w : Bool) (ra fa oa ha aa da : AV) (d : List Int) (hm : HsA m ra fa oa ha) (hd : slV intC da = some d) (hdl : d.length = m.rooms.length) (mid c5 c9 c10 bm bd : Nat) (pn : Nat) (pm : Mp Blk)
  (hday : DayOk m ra fa oa ha aa mid c9 ⟨pn, pm⟩) (g5 : pm.get c5 = some (.var [.func (.func (btF w)) [] []])) (g10 : pm.get c10 = some (.var [.func (.func 163) [] [.ptr c9 0]])) (gm : pm.get bm = some (.var [.int .i64 m.hours, ra, fa, oa, ha])) (gd : pm.get bd = some (.var [da]))
  (l5 : c5 < pn) (l9 : c9 < pn) (l10 : c10 < pn) (lm : bm < pn) (ld : bd < pn) (lmid : mid < pn) :
  ClR (dX c) 164 [.func (.func 193) [] [.ptr bm 0, .ptr bd 0], .func (.func 166) [] [.ptr c5 0, .ptr c10 0]] ⟨pn, pm⟩ (bestR m ⟨pn, pm⟩ (ordP m d w)) := by
 obtain ⟨nn, hnn, hnt, hn1, hn4, hol⟩ := ho_parts ho
 have hr3 := ho.rooms
 have o1 := sl_out hm.r
 have o2 := sl_out hm.f
 have o3 := sl_out hm.o
 have o4 := sl_out hm.h
 have lra := sl_len hm.r
 obtain ⟨mm, hmm⟩ : ∃ mm, mm = (((pm.set pn (.var [.func (.func 166) [] [.ptr c5 0, .ptr c10 0]])).set (pn + 1) (.var [.nilslice])).set (pn + 1 + 1) (.var [.bool false])).set (pn + 1 + 1) (.var [.bool false]) := ⟨_, rfl⟩
 have mG : mm.get pn = some (.var [.func (.func 166) [] [.ptr c5 0, .ptr c10 0]]) := by
  rw [hmm]
  repeat (first | rw [get_set_same] | rw [Mp.get_set, if_neg (by omega)])
 have mO : mm.get (pn + 1) = some (.var [.nilslice]) := by
  rw [hmm]
  repeat (first | rw [get_set_same] | rw [Mp.get_set, if_neg (by omega)])
 have mF : mm.get (pn + 1 + 1) = some (.var [.bool false]) := by
  rw [hmm]
  repeat (first | rw [get_set_same] | rw [Mp.get_set, if_neg (by omega)])
 have mB : ∀ id, id < pn → mm.get id = pm.get id := fun id hid => by
  rw [hmm]
  repeat rw [Mp.get_set, if_neg (by omega)]
 have GET : ∀ blk id, id < pn + 1 + 1 + 1 → (Heap.new ⟨pn + 1 + 1 + 1, mm⟩ blk).get id = mm.get id := fun blk id hid => by
  rw [Heap.get_new, if_neg (by simp only; omega)]
  rfl
 have GEL : ∀ blk, (Heap.new ⟨pn + 1 + 1 + 1, mm⟩ blk).get (pn + 1 + 1 + 1) = some blk := fun blk => by rw [Heap.get_new, if_pos rfl]
 have NXT : ∀ blk, (Heap.new ⟨pn + 1 + 1 + 1, mm⟩ blk).next = pn + 1 + 1 + 1 + 1 := fun _ => rfl
 have okc := bst_ok m (pn + 1) (pn + 1 + 1)
 have hlist : (pathsL (suitD d) m.rooms.length nn []).filter (fun p => doesB p d) = ordL m d := by unfold ordL; rw [does_paths hdl, hnt]
 have hpq : ∀ p, p.length = nn → PLt m.rooms.length p → pathB m p = true := fun p q1 q2 => by
  unfold pathB
  rw [q1, Bool.and_eq_true, List.all_eq_true]
  refine ⟨by rw [hnn]; simp, fun x hx => ?_⟩
  rw [w64_small (by omega) (by omega), inB_iff]
  have := q2 x hx
  omega
 have hdayK : ∀ hq : Heap, (∀ id, id < pn → hq.get id = pm.get id) → DayOk m ra fa oa ha aa mid c9 hq := fun hq hk => by
  obtain ⟨d1, d2, l, d3, d4⟩ := hday
  exact ⟨(hk _ l9).trans d1, d2, l, (hk _ lmid).trans d3, d4⟩
 have h163 := fun (hq : Heap) (hk : ∀ id, id < pn → hq.get id = pm.get id) (pa : AV) (p : List Int) (hb : Blt hq pa 1 (intsE p)) (hl : p.length ≤ 1000) (hp : pathB m p = true) => C163 h163 (hdayK hq hk) o1 o2 o3 o4 hb.out (by rcases hb with ⟨rfl, _⟩ | ⟨id, rfl, _⟩ <;> rfl) (by rcases hb with ⟨rfl, _⟩ | ⟨id, rfl, _⟩ <;> rfl) _ (K140d (X := dX c) h140 ho (hdayK hq hk) (pth_blt hb (by unfold maxL; omega)) hp)
 have H163 := Lib.hid h163
 have HPQ := Lib.hid hpq
 have HLI := Lib.hid hlist
 have HM := Lib.hid hm
 have HD := Lib.hid hd
 have HN4 := Lib.hid hn4
 have G5 := Lib.hid g5
 have G10 := Lib.hid g10
 have GM := Lib.hid gm
 have GD := Lib.hid gd
 have HNN := Lib.hid hnn
 have HR3 := Lib.hid hr3
 have HDL := Lib.hid hdl
 clear hday hdayK h163 hpq hlist hm hd hnn hnt hol hn4 hr3 g5 g10 gm gd ho hdl
 refine ClR.walk (c := _) h164 Tryz.func164 rfl (by kernel_rfl) rfl bestR_fail ?_
 try simp only [entryEnv, Nat.reduceAdd, List.nil_append, List.cons_append, emptyHp]
 repeat' (first | refine goS ?_ | refine go2 (fun hh => ?_) (fun hh => ?_) | fail)
 rw [← hmm]
 apply W.rangeEnds (R := stU (bstI m (pn + 1) (pn + 1 + 1)) (fun _ _ => False) (twoO (pn + 1) (pn + 1 + 1)) (fun _ => False) _ (((pathsL (suitD d) m.rooms.length nn []).filter (fun p => doesB p d)).foldl (bestF (btW w) (mostP m)) none, true))
 ·exact Z1
 ·refine C193 (bstI m (pn + 1) (pn + 1 + 1)) (twoO (pn + 1) (pn + 1 + 1)) okc (bestF (btW w) (mostP m)) h193 h87 h138 h139 h96 h194 h144 nn m.rooms.length (pn + 1 + 1 + 1) bm bd (by have := HN4.out; omega) (by have := HR3.out; omega) _ none ra fa oa ha da d lra o1 o2 o3 o4 HD.out HDL.out
   ((GET _ _ (by omega)).trans ((mB _ lm).trans (by rw [← HNN.out]; exact GM.out))) ((GET _ _ (by omega)).trans ((mB _ ld).trans GD.out)) (by rw [NXT]; omega) (by rw [NXT]; omega) (by unfold twoO; omega) (by unfold twoO; omega)
   ⟨(GET _ _ (by omega)).trans mF, ⟨.nilslice, (GET _ _ (by omega)).trans mO, .inl ⟨rfl, rfl⟩⟩, by rw [NXT]; omega, by rw [NXT]; omega⟩ ?_
  intro s o ap h1 i1 kx hol hpl hdo hbl hfv
  have hk : ∀ id, id < pn + 1 → h1.get id = mm.get id := fun id hid => ((kx.2 id (by rw [NXT]; omega) (by unfold twoO; omega)).1).trans (GET _ id (by omega))
  have hkp : ∀ id, id < pn → h1.get id = pm.get id := fun id hid => (hk id (by omega)).trans (mB id hid)
  have hL := ((kx.2 (pn + 1 + 1 + 1) (by rw [NXT]; omega) (by unfold twoO; omega)).1).trans (GEL _)
  have lL : pn + 1 + 1 + 1 < h1.next := Nat.lt_of_lt_of_le (by rw [NXT]; omega) kx.1
  obtain ⟨er, hE, hL⟩ : ∃ er, er = _ ∧ h1.get (pn + 1 + 1 + 1) = some (.loop 164 er _ _ _ .ready none) := ⟨_, rfl, hL⟩
  have r3 : er.get 3 = some (.ptr pn 0) := by rw [hE, Mp.get_map]; simp [go_sem, *, noBox]
  have r5 : er.get 5 = some (.ptr (pn + 1) 0) := by rw [hE, Mp.get_map]; simp [go_sem, *, noBox]
  have r6 : er.get 6 = some (.ptr (pn + 1 + 1) 0) := by rw [hE, Mp.get_map]; simp [go_sem, *, noBox]
  have fL : ¬ twoO (pn + 1) (pn + 1 + 1) h1 (pn + 1 + 1 + 1) := by unfold twoO; omega
  have nr : ∀ z r, h1.get (pn + 1 + 1 + 1) ≠ some (.rw z r) := fun z r e => by rw [hL] at e; cases e
  have hq := HPQ.out o hol hpl
  have oap := hbl.out
  have capt : ap.cells = [ap] ∧ isTuple ap = false := by rcases hbl with ⟨rfl, _⟩ | ⟨id, rfl, _⟩ <;> exact ⟨rfl, rfl⟩
  obtain ⟨cap, tap⟩ := capt
  simp only [AV.cells] at cap
  simp only [isTuple] at tap
  have wG := (hk pn (by omega)).trans mG
  have HHL := Lib.hid hL
  have HI1 := Lib.hid i1
  have HFL := Lib.hid fL
  have HNR := Lib.hid nr
  have HLL := Lib.hid lL
  have HBL := Lib.hid hbl
  have HOL := Lib.hid hol
  have HKP := Lib.hid hkp
  have HQ := Lib.hid hq
  have HOK := Lib.hid okc
  refine round_ok' hL rfl ?_
  clear hE hL kx hk hkp i1 fL nr hq hol hpl hdo hbl hfv lL GET GEL NXT mG mO mF mB okc hmm
  repeat' (first | refine goS ?_ | refine go2 (fun hh => ?_) (fun hh => ?_) | fail)
  rintro ⟨zn, zm⟩ hzn hzg hzL
  have qG := (hzg pn (by omega)).trans wG
  have hzp : ∀ id, id < pn → (Heap.mk zn zm).get id = pm.get id := fun id hid => (hzg id (by omega)).trans (HKP.out id hid)
  have q5 := (hzp c5 l5).trans G5.out
  have q10 := (hzp c10 l10).trans G10.out
  have hi := (rnd_in HOK.out HI1.out hzn hzg HFL.out HNR.out).1
  have nq : ∀ z r, (Heap.mk zn zm).get (pn + 1 + 1 + 1) ≠ some (.rw z r) := fun z r e => by rw [hzL] at e; cases e
  have bg := fun s4 h' => back_go HOK.out (s4 := s4) (h' := h') HI1.out hzn hzg HHL.out HFL.out HLL.out HNR.out nq
  have hb2 : Blt ⟨zn, zm⟩ ap 1 (intsE o) := HBL.out.lp HNR.out hzn hzg
  have hcl1 := H163.out ⟨zn, zm⟩ hzp ap o hb2 (by have := HOL.out; have := HN4.out; omega) HQ.out
  obtain ⟨y1, ⟨v, y2, y3⟩, y4, y5⟩ := hi
  obtain ⟨ov, cv, tv⟩ := y3.parts
  have HHI := Lib.hid (show bstI m (pn + 1) (pn + 1 + 1) s ⟨zn, zm⟩ from ⟨y1, ⟨v, y2, y3⟩, y4, y5⟩)
  have HBG := Lib.hid bg
  have HZL := Lib.hid hzL
  have HB2 := Lib.hid hb2
  have HY4 := Lib.hid y4
  have HY5 := Lib.hid y5
  simp only [AV.cells] at cv
  simp only [isTuple] at tv
  simp only [hp_get] at qG y1 y2
  obtain ⟨b1, b2, b3, b4, b5, b6, b7, b8⟩ := offs pn
  obtain ⟨e1, e2, e3, e4, e5, e6, e7, e8⟩ := offs (pn + 1)
  have hput : ∀ zz : Mp Blk, zz = (zm.set (pn + 1) (.var [ap])).set (pn + 1 + 1) (.var [.bool true]) → bstI m (pn + 1) (pn + 1 + 1) (some o) ⟨zn, zz⟩ ∧ Rel (twoO (pn + 1) (pn + 1 + 1)) ⟨zn, zm⟩ ⟨zn, zz⟩ ∧ (Heap.mk zn zz).get (pn + 1 + 1 + 1) = (Heap.mk zn zm).get (pn + 1 + 1 + 1) := fun zz hzz => by
   have ga : zz.get (pn + 1) = some (.var [ap]) := by rw [hzz, Mp.get_set, if_neg (by omega), get_set_same]
   have gb : zz.get (pn + 1 + 1) = some (.var [.bool true]) := by rw [hzz, get_set_same]
   have gc : ∀ id, id ≠ pn + 1 → id ≠ pn + 1 + 1 → zz.get id = zm.get id := fun id g1 g2 => by rw [hzz, Mp.get_set, if_neg (fun e => g2 e.symm), Mp.get_set, if_neg (fun e => g1 e.symm)]
   refine ⟨⟨gb, ⟨ap, ga, .inr ⟨o, rfl, ?_, HQ.out, by have := HOL.out; have := HN4.out; omega⟩⟩, HY4.out, HY5.out⟩, ⟨Nat.le_refl _, fun id _ hno => ⟨gc id (fun e => hno (.inl e)) (fun e => hno (.inr e)), hno⟩⟩, gc _ (by omega) (by omega)⟩
   rcases HB2.out with q | ⟨id, q1, q2, q3, q4⟩
   ·exact .inl q
   ·refine .inr ⟨id, q1, (gc id (fun e => ?_) (fun e => ?_)).trans q2, q3, q4⟩
    ·rw [e] at q2; simp only [hp_get, y2] at q2; cases q2
    ·rw [e] at q2; simp only [hp_get, y1] at q2; cases q2
  have HPUT := Lib.hid hput
  cases s with
  | none =>
   simp only [Option.isSome_none] at y1
   clear hzn hzg hzL wG hzp nq bg hb2 hcl1 y3 y4 y5 hput q5 q10
   repeat' (first | (refine WO1.gund rfl rfl ?_ ?_; exact Z2; simp only [pM, pN, rR, rP]) | refine go1 ?_ | refine go2 (fun hh => ?_) (fun hh => ?_) | fail)
   obtain ⟨u1, u2, u3⟩ := HPUT.out _ rfl
   rw [roundQ_norm]
   simp only [endV, u3.trans HZL.out]
   have := HBG.out (some o) _ u1 u2
   exact stR_go rfl this.1 this.2
  | some q =>
   simp only [Option.isSome_some] at y1
   have hv : Blt ⟨zn, zm⟩ v 1 (intsE q) ∧ pathB m q = true ∧ q.length ≤ 1000 := by
    rcases y3 with ⟨e, _⟩ | ⟨p, e, y6⟩
    ·cases e
    ·cases e; exact y6
   have hcl2 := H163.out ⟨zn, zm⟩ hzp v q hv.1 hv.2.2 hv.2.1
   have hcl166 := C166 h166 h119 h120 w ap v c5 c9 c10 ⟨zn, zm⟩ _ _ q5 q10 oap ov hcl1 hcl2
   have hbf : bestF (btW w) (mostP m) (some q) o = if btW w (mostP m o) (mostP m q) = true then some o else some q := rfl
   have HBF := Lib.hid hbf
   clear hzn hzg hzL wG hzp nq bg hb2 hcl1 hcl2 y3 y4 y5 hput q5 q10 hv hbf
   cases hbt : btW w (mostP m o) (mostP m q) with
   | true =>
    rw [hbt] at hcl166
    repeat' (first | (refine WO1.gund rfl rfl ?_ ?_; exact Z2; simp only [pM, pN, rR, rP]) | refine go1 ?_ | (apply U6; exact Z1; exact Z1; (focus (simp only [List.nil_append, List.append_nil]; first | exact hcl166)); simp only [pM, pN, rR, rP]) | refine go2 (fun hh => ?_) (fun hh => ?_) | fail)
    obtain ⟨u1, u2, u3⟩ := HPUT.out _ rfl
    rw [roundQ_norm]
    simp only [endV, u3.trans HZL.out]
    have := HBG.out (some o) _ u1 u2
    exact stR_go (by rw [HBF.out, if_pos hbt]) this.1 this.2
   | false =>
    rw [hbt] at hcl166
    repeat' (first | (refine WO1.gund rfl rfl ?_ ?_; exact Z2; simp only [pM, pN, rR, rP]) | refine go1 ?_ | (apply U6; exact Z1; exact Z1; (focus (simp only [List.nil_append, List.append_nil]; first | exact hcl166)); simp only [pM, pN, rR, rP]) | refine go2 (fun hh => ?_) (fun hh => ?_) | fail)
    rw [roundQ_norm]
    simp only [endV, HZL.out]
    have := HBG.out (some q) _ HHI.out (Rel.refl _ _)
    exact stR_go (by rw [HBF.out, if_neg (by rw [hbt]; simp)]) this.1 this.2
 ·intro r hcl hR
  rw [HLI.out] at hR
  obtain ⟨h', rfl, hgo1, _⟩ := hR
  obtain ⟨hI, hRel⟩ := hgo1 rfl
  have kL := hRel.2 (pn + 1 + 1 + 1) (by rw [NXT]; omega) (by unfold twoO; omega)
  have hL := kL.1.trans (GEL _)
  have hext : ∀ id, id < pn → h'.get id = pm.get id := fun id hid => ((hRel.2 id (by rw [NXT]; omega) (by unfold twoO; omega)).1).trans ((GET _ id (by omega)).trans (mB id hid))
  have hnx : pn ≤ h'.next := Nat.le_trans (by rw [NXT]; omega) hRel.1
  refine W.rangeNorm rfl ?_ hcl hL (fun e => by cases e) ?_
  ·first | exact Z2 | exact Z1
  generalize hput : Heap.put h' _ _ = hz
  have hzn : hz.next = h'.next := by rw [← hput]; rfl
  have hzg : ∀ id, id ≠ pn + 1 + 1 + 1 → hz.get id = h'.get id := fun id hid => by rw [← hput, Heap.get_put, if_neg (fun e => hid e.symm)]
  have hI2 := (okc.lp _ h' hz (pn + 1 + 1 + 1) hI (by unfold twoO; omega) (fun z r e => by rw [hL] at e; cases e) hzn hzg).1
  have hX : HExt ⟨pn, pm⟩ hz := ⟨by rw [hzn]; exact hnx, fun id hid => by
   have hid' : id < pn := hid
   rw [hzg id (by omega)]
   exact hext id hid'⟩
  obtain ⟨y1, ⟨v, y2, y3⟩, y4, y5⟩ := hI2
  obtain ⟨ov, cv, tv⟩ := y3.parts
  have HX := Lib.hid hX
  have HY3 := Lib.hid y3
  simp only [AV.cells] at cv
  simp only [isTuple] at tv
  obtain ⟨zn, zm⟩ := hz
  simp only [hp_get] at y2
  clear hcl hL hI hRel kL hput hgo1 GET GEL NXT mG mO mF mB okc hmm hext hnx hzn hzg hX y1 y3 y4 y5
  simp only [bN, tN]
  rcases HY3.out with ⟨eo, ev⟩ | ⟨p, eo, hbv, hpb, hpl⟩
  ·subst ev
   have eo9 : ordP m d w = none := eo
   rw [eo9]
   repeat' (first | refine goS ?_ | refine go2 (fun hh => ?_) (fun hh => ?_) | fail)
   all_goals (simp only [resV_def (X := dX c) Tryz.func164, Tryz.results164]; first | exact J5 | refine J6 ?_)
   exact ⟨_, _, rfl, .inl ⟨rfl, rfl⟩, HX.out⟩
  ·have eo9 : ordP m d w = some p := eo
   rw [eo9]
   have HBV := Lib.hid hbv
   clear hbv
   repeat' (first | refine goS ?_ | refine go2 (fun hh => ?_) (fun hh => ?_) | fail)
   all_goals (simp only [resV_def (X := dX c) Tryz.func164, Tryz.results164]; first | exact J5 | refine J6 ?_)
   exact ⟨_, _, rfl, .inr ⟨p, rfl, HBV.out, hpb, hpl⟩, HX.out⟩
end
end Go.AM
namespace Go.AM
open Go
variable [Keep]
theorem flat_of_pure {P : Program} {f : FuncId} {spec : List AV → Option AV} (hp : ∀ args v, spec args = some v → v.flat = true) (hI : IntrFn P f (pureFn spec)) : IntrFn P f (flatFnD spec) := by
  intro args h v h' hg C w vs r hv
  unfold flatFnD at hg
  split at hg
  · rename_i l hl
    split at hg
    · rename_i u hsp
      cases hg
      obtain ⟨p1, p2⟩ := viewDs_ok r hv hl
      have hpl : AV.purL l = true := by
        clear hl hsp p2
        induction l with
        | nil => rfl
        | cons a l ih =>
          simp only [AV.purL, Bool.and_eq_true]
          exact ⟨p1 a (List.mem_cons_self ..), ih fun a ha => p1 a (List.mem_cons_of_mem _ ha)⟩
      have hok := hI l emptyHp v emptyHp (by simp only [pureFn, hpl, if_true, hsp]) ⟨fun _ => none, w.cell?⟩ w vs ⟨fun _ _ h => h, fun id blk e => by simp [emptyHp, Heap.get] at e, fun id id' blk blk' L L' e => by simp [emptyHp, Heap.get] at e, fun id blk L x v e => by simp [emptyHp, Heap.get] at e, fun id L e => (by cases e), r.base.on r.sig (fun _ _ _ => rfl)⟩ p2
      refine ⟨hok.1, fun cs => ?_⟩
      have := hok.2 cs
      obtain ⟨C', w', fr, u, q1, q2, q3, q4, q5, q6⟩ := this
      have hsame : ∀ β, β < w.heap.size → w'.heap[β]? = w.heap[β]? := fun β hb => q6.same β hb emptyHp_live id
      refine ⟨C, w', fr, u, q1, q2, q3, q4.flat (hp _ _ hsp), ⟨fun x u e => ?_, fun id blk e => ?_, r.inj, r.apart, r.fresh, r.base.on (fun _ _ e => e) (fun x v e => hsame _ (WR.sig_lt (F := Fr.mk 0 false .nil .nil h [] none) r e))⟩, ?_⟩
      · have h1 := r.sig x u e
        have hb := WR.sig_lt (F := Fr.mk 0 false .nil .nil h [] none) r e
        unfold World.cell? at h1 ⊢
        rw [hsame _ hb]
        exact h1
      · obtain ⟨L, k1, k2⟩ := r.blk id blk e
        exact ⟨L, k1, k2.same (.refl C) (hsame _ k2.lt)⟩
      · exact { le := .refl C, os := q6.os, tape := q6.tape, output := q6.output, size := q6.size, same := fun β hb _ _ => hsame β hb, live := fun β hb l => .inl l,
                own := fun _ _ o => o.elim, sig := fun x u hb e => .inl e, next := Nat.le_refl _ }
    · cases hg
  · cases hg
end Go.AM
