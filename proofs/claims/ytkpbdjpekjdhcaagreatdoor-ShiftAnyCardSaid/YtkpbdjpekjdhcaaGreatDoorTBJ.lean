/-
  A part of the proof: contracts of functions.
-/
import Derived.Test.YtkpbdjpekjdhcaaGreatDoorTBH
import Derived.Test.YtkpbdjpekjdhcaaGreatDoorTBI
set_option linter.unusedSectionVars false
set_option linter.unusedVariables false
set_option linter.unusedSimpArgs false
set_option maxRecDepth 100000
namespace Go.AM
open Go Go.Proofs
variable [Keep]
attribute [local irreducible] W WO WO1 WD WQ WT thenQ blockQ endR isRet retK Cl ClR
open Go.TX (Rm Fa Ha Hs mapO mapO_len)
attribute [local irreducible] roundQ RdR houseB pathB airS failsH hasB allP
theorem Blt.lp {h hq : Heap} {v : AV} {sz L : Nat} {l : List AV} (b : Blt h v sz l) (nr : ∀ z r, h.get L ≠ some (.rw z r)) (hn : hq.next = h.next) (hg : ∀ j, j ≠ L → hq.get j = h.get j) : Blt hq v sz l := by
 rcases b with q | ⟨id, q1, q2, q3, q4⟩
 ·exact .inl q
 ·exact .inr ⟨id, q1, (hg id (fun e => nr _ _ (e ▸ q2))).trans q2, by rw [hn]; exact q3, q4⟩
theorem K171s {X : Ctx} (hX : X.intr 171 = some (flatFnD sp171)) {a : AV} {l : List Int} (ha : slV intC a = some l) (h : Heap) : Cl X 171 [a] h (.ret (.int .i64 (sumW l)) h none) :=
 Cl.intr hX (by simp only [flatFnD, viewDs, viewD_sl ha, sp171, ha, Option.map_some])
theorem K144b {X : Ctx} (hX : X.intr 144 = some (flatFnD sp144)) {a : AV} {l : List Int} {h : Heap} (b : Blt h a 1 (intsE l)) (hl : l.length ≤ 1000) (x : Int) : Cl X 144 [a, .int .i64 x] h (.ret (.int .i64 ((l.count x : Nat) : Int)) h none) := by
 obtain ⟨a', v1, s1⟩ := SeeV.blt (c := intC) b (by unfold maxL; omega)
 have e : viewD h a = some a' := by
  rcases b with ⟨rfl, _⟩ | ⟨id, rfl, _⟩
  ·exact v1
  ·exact v1
 have hc : countL l x = ((l.count x : Nat) : Int) := by
  unfold countL
  have := count_fold x l 0 (by omega)
  simpa using this
 have hx : viewD h (.int .i64 x) = some (.int .i64 x) := rfl
 exact Cl.intr hX (by simp only [flatFnD, viewDs, e, hx, sp144, s1, Option.map_some, hc])
section
variable {c : Itr}
theorem C192 (h192 : c 192 = none) (h102 : c 102 = some (pureFn sp102)) (n : Int) (id : Nat) (hr : Int) (z1 z2 z3 z4 : AV) (h : Heap) (hg : h.get id = some (.var [.int .i64 hr, z1, z2, z3, z4])) :
  Cl (dX c) 192 (([] ++ [.int .i64 n]) ++ [.ptr id 0]) h (.ret (.bool (!inB n 0 hr)) h none) := by
 refine ClR.cl ?_
 have k102 := fun h => K102 (X := dX c) h102 n 0 hr h
 refine ClR.walk (c := _) h192 Tryz.func192 rfl (by kernel_rfl) rfl (fun e => by cases e) ?_
 try simp only [entryEnv, Nat.reduceAdd, List.nil_append, List.cons_append, emptyHp]
 repeat' (first | refine goS ?_ | (apply U6; exact Z1; exact Z1; (focus (simp only [List.nil_append, List.append_nil]; first | exact k102 _)); simp only [pM, pN, rR, rP]) | refine go2 (fun hh => ?_) (fun hh => ?_) | fail)
 all_goals (simp only [resV_def (X := dX c) Tryz.func192, Tryz.results192]; first | exact J5 | refine J6 ?_)
 all_goals rfl
theorem C194 (h194 : c 194 = none) (h144 : c 144 = some (flatFnD sp144)) (a da : AV) (p d : List Int) (r : Int) (id : Nat) (h : Heap) (hg : h.get id = some (.var [da])) (hd : slV intC da = some d) (b : Blt h a 1 (intsE p)) (hl : p.length ≤ 1000) (hr1 : -1 ≤ r) (hr2 : r < d.length) :
  Cl (dX c) 194 (([] ++ [a, .int .i64 r]) ++ [.ptr id 0]) h (.ret (.bool (suitD d p r)) h none) := by
 refine ClR.cl ?_
 have k144 := K144b (X := dX c) h144 b hl r
 have oa := b.out
 have od := sl_out hd
 unfold suitD
 cases e : (r == -1) with
 | true =>
  rw [Bool.true_or]
  clear b hd hl hr1 hr2
  refine ClR.walk (c := _) h194 Tryz.func194 rfl (by kernel_rfl) rfl (fun e => by cases e) ?_
  try simp only [entryEnv, Nat.reduceAdd, List.nil_append, List.cons_append, emptyHp]
  repeat' (first | (apply W.drawQ (id := 1) (l1 := [0, 1, 2, 3, 4, 5, 6, 7, 8, 9, 10, 11, 12]) (l2 := []); kernel_rfl; kernel_rfl; kernel_rfl; exact Z4) | refine go1 ?_ | (apply U6; exact Z1; exact Z1; (focus (simp only [List.nil_append, List.append_nil]; first | exact k144)); simp only [pM, pN, rR, rP]) | refine go2 (fun hh => ?_) (fun hh => ?_) | fail)
  all_goals (simp only [resV_def (X := dX c) Tryz.func194, Tryz.results194]; first | exact J5 | refine J6 ?_)
  all_goals rfl
 | false =>
  have hne : r ≠ -1 := by simpa using e
  obtain ⟨rn, rfl⟩ : ∃ rn : Nat, r = rn := ⟨r.toNat, by omega⟩
  obtain ⟨n, hn⟩ := get_some (l := d) (k := rn) (by omega)
  have hix := fun H => ints_idx hd hn H
  have hgn : d.getD ((rn : Int)).toNat 0 = n := by rw [Int.toNat_natCast]; simp [List.getD, hn]
  rw [hgn, Bool.false_or]
  clear b hd hl hr1 hr2 hn hgn hne
  refine ClR.walk (c := _) h194 Tryz.func194 rfl (by kernel_rfl) rfl (fun e => by cases e) ?_
  try simp only [entryEnv, Nat.reduceAdd, List.nil_append, List.cons_append, emptyHp]
  repeat' (first | (apply W.drawQ (id := 1) (l1 := [0, 1, 2, 3, 4, 5, 6, 7, 8, 9, 10, 11, 12]) (l2 := []); kernel_rfl; kernel_rfl; kernel_rfl; exact Z4) | refine go1 ?_ | (apply U6; exact Z1; exact Z1; (focus (simp only [List.nil_append, List.append_nil]; first | exact k144)); simp only [pM, pN, rR, rP]) | refine go2 (fun hh => ?_) (fun hh => ?_) | fail)
  all_goals (simp only [resV_def (X := dX c) Tryz.func194, Tryz.results194]; first | exact J5 | refine J6 ?_)
  all_goals rfl
end
noncomputable def cRJ : Itr
 | 102 => some (pureFn sp102)
 | 171 => some (flatFnD sp171)
 | _ => none
theorem cRJ_sound : Sound (dX cRJ) := dX_sound (fun f g h => by
 unfold cRJ at h
 split at h
 ·cases h; exact F102
 ·cases h; exact F171D
 ·cases h)
def sp162 : List AV → Option AV
 | [x, da] => match hsV x, slV intC da with
  | some m, some d => some (.bool (dutyP m d))
  | _, _ => none
 | _ => none
theorem p162 : ∀ args v, sp162 args = some v → v.pur = true := by
 intro args v h
 unfold sp162 at h
 split at h
 ·split at h
  ·cases h; rfl
  ·cases h
 ·cases h
set_option maxHeartbeats 4000000 in
theorem F162 : IntrFn Tryz.prog 162 (pureFn sp162) := by
 refine pure_fn (X := dX cRJ) cRJ_sound p162 ?_
 intro args v h
 unfold sp162 at h
 split at h
 ·rename_i xx da
  split at h
  ·rename_i m d hm hd
   have h := Option.some.inj h
   subst h
   obtain ⟨ra, fa, oa, ha, rfl, hA⟩ := hs_parts' hm
   have l1 := sl_len hA.r
   have o1 := sl_out hA.r
   have o2 := sl_out hA.f
   have o3 := sl_out hA.o
   have o4 := sl_out hA.h
   have ld := sl_len hd
   have od := sl_out hd
   have k171 := fun h => K171s (X := dX cRJ) rfl hd h
   have k171 := k171 ⟨1, Mp.nil.set 0 (.var [.int .i64 m.hours, ra, fa, oa, ha])⟩
   have hcl : ∀ H : Heap, H.get 0 = some (.var [.int .i64 m.hours, ra, fa, oa, ha]) → Cl (dX cRJ) 92 [da, .func (.func 192) [] [.ptr 0 0]] H (.ret (.bool (d.any fun n => !inB n 0 m.hours)) H none) := fun H e => C92 cRJ rfl rfl _ _ hd 192 [] [.ptr 0 0] _ H (fun n _ => C192 (c := cRJ) rfl rfl n 0 m.hours _ _ _ _ H e)
   have hcl := hcl ⟨1, Mp.nil.set 0 (.var [.int .i64 m.hours, ra, fa, oa, ha])⟩ (by simp [hp_get])
   unfold dutyP
   clear hm hd hA
   generalize (d.any fun n => !inB n 0 m.hours) = an at *
   generalize sumW d = sd at *
   cases e1 : ((d.length : Int) == (m.rooms.length : Int)) with
   | false =>
    simp only [Bool.false_and]
    refine ClR.walk (c := _) rfl Tryz.func162 rfl (by kernel_rfl) rfl isRet_fail ?_
    try simp only [entryEnv, Nat.reduceAdd, List.nil_append, List.cons_append, emptyHp]
    repeat' (first | (refine WO1.gund rfl rfl ?_ ?_; exact Z2; simp only [pM, pN, rR, rP]) | (apply W.drawQ (id := 1) (l1 := [0, 1, 2, 3, 4, 5, 6, 7, 8, 9, 10, 11, 12, 13, 14, 15, 16, 17, 18, 19]) (l2 := []); kernel_rfl; kernel_rfl; kernel_rfl; exact Z4) | refine go1 ?_ | (apply U6; exact Z1; exact Z1; (focus (simp only [List.nil_append, List.append_nil]; first | exact hcl | exact k171)); simp only [pM, pN, rR, rP]) | refine go2 (fun hh => ?_) (fun hh => ?_) | fail)
    all_goals (simp only [resV_def (X := dX cRJ) Tryz.func162, Tryz.results162]; first | exact J5 | refine J6 ?_)
    all_goals rfl
   | true =>
    cases an with
    | true =>
     simp only [Bool.not_true, Bool.and_false, Bool.false_and]
     refine ClR.walk (c := _) rfl Tryz.func162 rfl (by kernel_rfl) rfl isRet_fail ?_
     try simp only [entryEnv, Nat.reduceAdd, List.nil_append, List.cons_append, emptyHp]
     repeat' (first | (refine WO1.gund rfl rfl ?_ ?_; exact Z2; simp only [pM, pN, rR, rP]) | (apply W.drawQ (id := 1) (l1 := [0, 1, 2, 3, 4, 5, 6, 7, 8, 9, 10, 11, 12, 13, 14, 15, 16, 17, 18, 19]) (l2 := []); kernel_rfl; kernel_rfl; kernel_rfl; exact Z4) | refine go1 ?_ | (apply U6; exact Z1; exact Z1; (focus (simp only [List.nil_append, List.append_nil]; first | exact hcl | exact k171)); simp only [pM, pN, rR, rP]) | refine go2 (fun hh => ?_) (fun hh => ?_) | fail)
     all_goals (simp only [resV_def (X := dX cRJ) Tryz.func162, Tryz.results162]; first | exact J5 | refine J6 ?_)
     all_goals rfl
    | false =>
     simp only [Bool.not_false, Bool.and_self, Bool.true_and]
     refine ClR.walk (c := _) rfl Tryz.func162 rfl (by kernel_rfl) rfl isRet_fail ?_
     try simp only [entryEnv, Nat.reduceAdd, List.nil_append, List.cons_append, emptyHp]
     repeat' (first | (refine WO1.gund rfl rfl ?_ ?_; exact Z2; simp only [pM, pN, rR, rP]) | (apply W.drawQ (id := 1) (l1 := [0, 1, 2, 3, 4, 5, 6, 7, 8, 9, 10, 11, 12, 13, 14, 15, 16, 17, 18, 19]) (l2 := []); kernel_rfl; kernel_rfl; kernel_rfl; exact Z4) | refine go1 ?_ | (apply U6; exact Z1; exact Z1; (focus (simp only [List.nil_append, List.append_nil]; first | exact hcl | exact k171)); simp only [pM, pN, rR, rP]) | refine go2 (fun hh => ?_) (fun hh => ?_) | fail)
     all_goals (simp only [resV_def (X := dX cRJ) Tryz.func162, Tryz.results162]; first | exact J5 | refine J6 ?_)
     all_goals rfl
  ·cases h
 ·cases h
theorem K162 {X : Ctx} (hX : X.intr 162 = some (pureFn sp162)) {m : Hs} {ra fa oa ha da : AV} {d : List Int} (hm : HsA m ra fa oa ha) (hd : slV intC da = some d) (h : Heap) : Cl X 162 [.agg [.int .i64 m.hours, ra, fa, oa, ha], da] h (.ret (.bool (dutyP m d)) h none) :=
 Cl.intr hX (by
  have h1 := hm.pur
  have h2 := hm.hs
  simp only [pureFn, AV.purL, h1, sl_pur hd, Bool.and_self, if_true, sp162, h2, hd])
section
variable {c : Itr}
set_option maxHeartbeats 16000000 in
theorem C193 {σ : Type} (I : σ → Heap → Prop) (own : Heap → Nat → Prop) (ok : OwnOk I own) (f : σ → List Int → σ) (h193 : c 193 = none) (h87 : c 87 = none) (h138 : c 138 = none) (h139 : c 139 = none) (h96 : c 96 = none) (h194 : c 194 = none) (h144 : c 144 = some (flatFnD sp144)) (n rl L bm bd : Nat) (hn : n ≤ 8) (hrl : rl ≤ 8) (h : Heap) (s0 : σ) (ra fa oa ha da : AV) (d : List Int) (lra : lenS ra = some rl) (o1 : outV (some ra) = some ra) (o2 : outV (some fa) = some fa) (o3 : outV (some oa) = some oa) (o4 : outV (some ha) = some ha) (hd : slV intC da = some d) (hdl : d.length = rl)
  (g1 : h.get bm = some (.var [.int .i64 ↑n, ra, fa, oa, ha])) (gd : h.get bd = some (.var [da])) (l1 : bm < h.next) (l2 : bd < h.next) (f1 : ¬ own h bm) (fd : ¬ own h bd) (hi : I s0 h)
  (hrd : ∀ s o a h1, I s h1 → Rel own h h1 → o.length = n → PLt rl o → doesB o d = true → Blt h1 a 1 (intsE o) → FreeV own h1 a → RdR (dX c) L [a] h1 (stR I (fun _ _ => False) own (fun _ => False) h1 (f s o, true))) :
  ClR (dX c) 193 [.yield L, .ptr bm 0, .ptr bd 0] h (stU I (fun _ _ => False) own (fun _ => False) h (((pathsL (suitD d) rl n []).filter (fun p => doesB p d)).foldl f s0, true)) := by
 obtain ⟨pn, pm⟩ := h
 simp only at l1 l2
 obtain ⟨stp, hstp⟩ : ∃ stp : List Int → σ → σ × Bool, stp = fun o s => ((if doesB o d = true then f s o else s), true) := ⟨_, rfl⟩
 have hfold : ∀ s, foldS stp (pathsL (suitD d) rl n []) s = (((pathsL (suitD d) rl n []).filter (fun p => doesB p d)).foldl f s, true) := fun s => by
  rw [hstp, foldl_filter]
  exact foldS_all (fun s o => if doesB o d = true then f s o else s) _ _
 have k87 := C87 (c := c) h87 n ra fa oa ha (.func (.func 194) [] [.ptr bd 0]) o1 o2 o3 o4 rfl rfl rfl
 obtain ⟨mm, hmm⟩ : ∃ mm, mm = ((pm.set pn (.var [.yield L])).set (pn + 1) (.var [.int .i64 ↑n, ra, fa, oa, ha])).set (pn + 1 + 1) (.var [.func (.func 194) [] [.ptr bd 0]]) := ⟨_, rfl⟩
 have mY : mm.get pn = some (.var [.yield L]) := by
  rw [hmm]
  repeat (first | rw [get_set_same] | rw [Mp.get_set, if_neg (by omega)])
 have mH : mm.get (pn + 1) = some (.var [.int .i64 ↑n, ra, fa, oa, ha]) := by
  rw [hmm]
  repeat (first | rw [get_set_same] | rw [Mp.get_set, if_neg (by omega)])
 have mS : mm.get (pn + 1 + 1) = some (.var [.func (.func 194) [] [.ptr bd 0]]) := by
  rw [hmm]
  repeat (first | rw [get_set_same] | rw [Mp.get_set, if_neg (by omega)])
 have mB : ∀ id, id < pn → mm.get id = pm.get id := fun id hid => by
  rw [hmm]
  repeat rw [Mp.get_set, if_neg (by omega)]
 have HX : ∀ blk, HExt ⟨pn, pm⟩ (Heap.new ⟨pn + 1 + 1 + 1, mm⟩ blk) := fun blk => by
  refine ⟨by simp only [Heap.new]; omega, fun id hid => ?_⟩
  simp only at hid
  rw [Heap.get_new, if_neg (by simp only; omega)]
  exact mB id hid
 have GET : ∀ blk id, id < pn + 1 + 1 + 1 → (Heap.new ⟨pn + 1 + 1 + 1, mm⟩ blk).get id = mm.get id := fun blk id hid => by
  rw [Heap.get_new, if_neg (by simp only; omega)]
  rfl
 have GEL : ∀ blk, (Heap.new ⟨pn + 1 + 1 + 1, mm⟩ blk).get (pn + 1 + 1 + 1) = some blk := fun blk => by rw [Heap.get_new, if_pos rfl]
 have NXT : ∀ blk, (Heap.new ⟨pn + 1 + 1 + 1, mm⟩ blk).next = pn + 1 + 1 + 1 + 1 := fun _ => rfl
 have IX := fun blk => ok.ext s0 _ _ hi (HX blk)
 have RX := fun blk => ok.rel hi (HX blk)
 have NO : ∀ blk id, pn ≤ id → ¬ own (Heap.new ⟨pn + 1 + 1 + 1, mm⟩ blk) id := fun blk id hid ho => by
  have := ok.lt s0 _ id hi ((IX blk).2 id ho)
  simp only at this
  omega
 have gd' : pm.get bd = some (.var [da]) := gd
 have g1' : pm.get bm = some (.var [.int .i64 ↑n, ra, fa, oa, ha]) := g1
 simp only [hp_get] at g1
 have nb1 : (pn == bm) = false := by simp only [beq_eq_false_iff_ne, ne_eq]; omega
 have nb2 : (bm == pn) = false := by simp only [beq_eq_false_iff_ne, ne_eq]; omega
 have HHRD := Lib.hid hrd
 have HD := Lib.hid hd
 have HI0 := Lib.hid hi
 have HFD := Lib.hid fd
 have HDL := Lib.hid hdl
 clear hrd hd hi f1 fd hdl gd
 refine ClR.walk (c := _) h193 Tryz.func193 rfl (by kernel_rfl) rfl stU_fail ?_
 try simp only [entryEnv, Nat.reduceAdd, List.nil_append, List.cons_append, emptyHp]
 repeat' (first | (refine W.label ?_; simp only [tN, bN, eN, true_and]) | refine go1 ?_ | (apply U6; exact Z1; exact Z1; (focus (simp only [List.nil_append, List.append_nil]; first | exact k87 _ _)); simp only [pM, pN, rR, rP]) | refine go2 (fun hh => ?_) (fun hh => ?_) | fail)
 rw [← hmm]
 apply W.rangeEnds (R := stU I (fun _ _ => False) own (fun _ => False) _ (foldS stp (pathsL (suitD d) rl n []) s0))
 ·exact Z1
 ·refine G138 I (fun _ _ => False) own (fun _ => False) ok stp (fun _ _ => True) (fun _ _ _ _ _ _ => trivial) c h138 h139 h96 n rl (pn + 1 + 1 + 1) (pn + 1) (pn + 1 + 1) hn hrl _ s0 ra fa oa ha lra o1 194 [] [.ptr bd 0] (suitD d)
   ((GET _ _ (by omega)).trans mH) ((GET _ _ (by omega)).trans mS) (by rw [NXT]; omega) (by rw [NXT]; omega) (NO _ _ (by omega)) (NO _ _ (by omega)) (IX _).1 trivial ?_ ?_
  ·intro ap p r h1 kx hbl hpl _ hr1 hr2
   have wd := ((kx.2 bd (by rw [NXT]; omega) (fun ho => HFD.out ((IX _).2 _ ho))).1).trans ((GET _ _ (by omega)).trans ((mB _ l2).trans gd'))
   exact C194 h194 h144 ap da p d r bd h1 wd HD.out hbl (by omega) hr1 (by rw [HDL.out]; exact hr2)
  intro s o rem ap h1 _ i1 kx hol hpl hbl hfv
  have wd := ((kx.2 bd (by rw [NXT]; omega) (fun ho => HFD.out ((IX _).2 _ ho))).1).trans ((GET _ _ (by omega)).trans ((mB _ l2).trans gd'))
  have wY := ((kx.2 pn (by rw [NXT]; omega) (NO _ _ (by omega))).1).trans ((GET _ _ (by omega)).trans mY)
  have kL := kx.2 (pn + 1 + 1 + 1) (by rw [NXT]; omega) (NO _ _ (by omega))
  have hL := kL.1.trans (GEL _)
  have fL := kL.2
  have lL : pn + 1 + 1 + 1 < h1.next := Nat.lt_of_lt_of_le (by rw [NXT]; omega) kx.1
  have rel1 : Rel own ⟨pn, pm⟩ h1 := (RX _).trans kx
  obtain ⟨er, hE, hL⟩ : ∃ er, er = _ ∧ h1.get (pn + 1 + 1 + 1) = some (.loop 193 er _ _ _ .ready none) := ⟨_, rfl, hL⟩
  have r1 : er.get 1 = some (.ptr bm 0) := by rw [hE, Mp.get_map]; simp [go_sem, *, noBox]
  have r2 : er.get 2 = some (.ptr bd 0) := by rw [hE, Mp.get_map]; simp [go_sem, *, noBox]
  have r3 : er.get 3 = some (.ptr pn 0) := by rw [hE, Mp.get_map]; simp [go_sem, *, noBox]
  have nr : ∀ z r, h1.get (pn + 1 + 1 + 1) ≠ some (.rw z r) := fun z r e => by rw [hL] at e; cases e
  have oap := hbl.out
  have capt : ap.cells = [ap] ∧ isTuple ap = false := by rcases hbl with ⟨rfl, _⟩ | ⟨id, rfl, _⟩ <;> exact ⟨rfl, rfl⟩
  obtain ⟨cap, tap⟩ := capt
  simp only [AV.cells] at cap
  simp only [isTuple] at tap
  have HHL := Lib.hid hL
  have HI1 := Lib.hid i1
  have HFL := Lib.hid fL
  have HNR := Lib.hid nr
  have HLL := Lib.hid lL
  have HREL := Lib.hid rel1
  have HBL := Lib.hid hbl
  have HFV := Lib.hid hfv
  have HOL := Lib.hid hol
  have HPL := Lib.hid hpl
  have HSTP := Lib.hid hstp
  have HOK := Lib.hid ok
  have ldd := sl_len HD.out
  have odd := sl_out HD.out
  have mdd := sl_max HD.out
  refine round_ok' hL rfl ?_
  clear hE hL kL fL nr lL rel1 i1 kx hol hpl hbl hfv IX RX NO HX GET GEL NXT mY mH mS mB hfold hstp ok hmm g1 g1' gd' k87
  repeat' (first | refine goS ?_ | refine go2 (fun hh => ?_) (fun hh => ?_) | fail)
  rintro ⟨zn, zm⟩ hzn hzg hzL
  have qd := (hzg bd (by omega)).trans wd
  have qY := (hzg pn (by omega)).trans wY
  have hri := rnd_in HOK.out HI1.out hzn hzg HFL.out HNR.out
  have nq : ∀ z r, (Heap.mk zn zm).get (pn + 1 + 1 + 1) ≠ some (.rw z r) := fun z r e => by rw [hzL] at e; cases e
  have bg := fun s4 h' => back_go HOK.out (s4 := s4) (h' := h') HI1.out hzn hzg HHL.out HFL.out HLL.out HNR.out nq
  have rq := rel_in HOK.out HI1.out hzn hzg HFL.out HNR.out HREL.out (show pn ≤ pn + 1 + 1 + 1 by omega)
  have hb2 : Blt ⟨zn, zm⟩ ap 1 (intsE o) := HBL.out.lp HNR.out hzn hzg
  have hf2 : FreeV own ⟨zn, zm⟩ ap := fun id off k e ho => HFV.out id off k e (hri.2 id ho)
  have hlz : pn + 1 + 1 + 1 < zn := by rw [show zn = h1.next from hzn]; exact HLL.out
  have h144' := fun x => K144b (X := dX c) h144 hb2 (by have := HOL.out; omega) x
  have H144 := Lib.hid h144'
  have HRI := Lib.hid hri
  have HBG := Lib.hid bg
  have HRQ := Lib.hid rq
  have HB2 := Lib.hid hb2
  have HF2 := Lib.hid hf2
  have HZL := Lib.hid hzL
  have HLZ := Lib.hid hlz
  simp only [hp_get] at qd qY
  clear hzn hzg hzL wd wY hri nq bg rq hb2 hf2 hlz h144'
  repeat' (first | refine goS ?_ | refine go2 (fun hh => ?_) (fun hh => ?_) | fail)
  refine W.loopH (d.length) [3, 4, 11, 12] [3] (fun k e lm => e.get 13 = some (.int .i64 ↑k) ∧ (List.range k).all (fun r => !(((o.count (r : Int) : Nat) : Int) != d.getD r 0)) = true) ?_ ?_
  ·skip
   refine ⟨?_, ?_⟩
   all_goals first | exact Z2 | (simp [go_sem, *]; done) | skip
   all_goals rfl
  intro k e lm hk0 hce hcl hinv
  simp only [keepE, and_true] at hce
  obtain ⟨c3, c4, c11, c12⟩ := hce
  simp only [go_sem, *, Nat.reduceLT, Int.reduceEq, Int.reduceBEq, Int.reduceLE, Int.reduceLT, Nat.reduceAdd, Nat.reduceBEq, Nat.reduceEqDiff, reduceIte, Nat.reduceLeDiff, Nat.reduceMul, Nat.reduceSub, reduceCtorEq] at c3 c4 c11 c12
  simp only [keepL, and_true] at hcl
  have d3 := hcl
  clear hcl
  simp only [go_sem, *, Nat.reduceLT, Int.reduceEq, Int.reduceBEq, Int.reduceLE, Int.reduceLT, Nat.reduceAdd, Nat.reduceBEq, Nat.reduceEqDiff, reduceIte, Nat.reduceLeDiff, Nat.reduceMul, Nat.reduceSub, reduceCtorEq] at d3
  obtain ⟨h13, al⟩ := hinv
  by_cases hlt : k < d.length
  ·have hd0 : decide ((k : Int) < ((d.length : Nat) : Int)) = true := by first | (simpa using hlt; done) | (simp only [decide_eq_true_eq]; omega)
   have hv_0 := wrap_succ hlt mdd
   obtain ⟨nd, hnd⟩ := get_some hlt
   have hix := fun H => ints_idx HD.out hnd H
   have hgn : d.getD k 0 = nd := by simp [List.getD, hnd]
   have k144 := H144.out (k : Int)
   have hnx : (List.range (k + 1)).all (fun r => !(((o.count (r : Int) : Nat) : Int) != d.getD r 0)) = !(((o.count (k : Int) : Nat) : Int) != nd) := by rw [List.range_succ, List.all_append, al, List.all_cons, hgn]; simp
   have hno : (((o.count (k : Int) : Nat) : Int) != nd) = true → doesB o d = false := fun e => by
    unfold doesB
    rw [List.all_eq_false]
    exact ⟨k, List.mem_range.2 hlt, by rw [hgn, e]; simp⟩
   have HNX := Lib.hid hnx
   have HNO := Lib.hid hno
   have HLT0 := Lib.hid hlt
   clear hnd hgn hnx hno al hlt
   cases e : (((o.count (k : Int) : Nat) : Int) != nd) with
   | true =>
    have hno := HNO.out e
    have hw : stp o s = (s, true) := by rw [HSTP.out]; simp only [hno]; rfl
    have HW := Lib.hid hw
    clear hno hw
    repeat' (first | refine goS ?_ | (apply U6; exact Z1; exact Z1; (focus (simp only [List.nil_append, List.append_nil]; first | exact k144)); simp only [pM, pN, rR, rP]) | refine go2 (fun hh => ?_) (fun hh => ?_) | fail)
    rw [roundQ_norm]
    simp only [endV, HZL.out]
    have := HBG.out s _ HRI.out.1 (Rel.refl _ _)
    exact stR_go HW.out this.1 this.2
   | false =>
    repeat' (first | refine goS ?_ | (apply U6; exact Z1; exact Z1; (focus (simp only [List.nil_append, List.append_nil]; first | exact k144)); simp only [pM, pN, rR, rP]) | refine go2 (fun hh => ?_) (fun hh => ?_) | fail)
    all_goals refine contH_mk (by first | assumption | exact HLT0.out | exact HLT0.out) (by simp only [keepE, and_true, and_self, go_sem, *, Nat.reduceLT, Int.reduceEq, Int.reduceBEq, Int.reduceLE, Int.reduceLT, Nat.reduceAdd, Nat.reduceBEq, Nat.reduceEqDiff, reduceIte, Nat.reduceLeDiff, Nat.reduceMul, Nat.reduceSub, reduceCtorEq]) (by simp only [keepL, and_true, and_self, go_sem, *, Nat.reduceLT, Int.reduceEq, Int.reduceBEq, Int.reduceLE, Int.reduceLT, Nat.reduceAdd, Nat.reduceBEq, Nat.reduceEqDiff, reduceIte, Nat.reduceLeDiff, Nat.reduceMul, Nat.reduceSub, reduceCtorEq]) ?_
    all_goals refine ⟨?_, ?_⟩
    all_goals first | exact Z2 | skip
    all_goals (rw [HNX.out, e]; rfl)
  ·have hd0 : decide ((k : Int) < ((d.length : Nat) : Int)) = false := by first | (simpa using hlt; done) | (simp only [decide_eq_false_iff_not]; omega)
   obtain rfl : k = d.length := by omega
   have hdo : doesB o d = true := al
   have hw : stp o s = (f s o, true) := by rw [HSTP.out]; simp only [hdo]; rfl
   have hR := HHRD.out s o ap ⟨zn, zm⟩ HRI.out.1 HRQ.out HOL.out HPL.out hdo HB2.out HF2.out
   unfold RdR at hR
   obtain ⟨r, hyl, hq⟩ := hR
   have HW := Lib.hid hw
   clear al hdo hw
   rcases stR_or hq with ⟨s', h', ex, rfl, kk, kr⟩ | ⟨s', h', ex, rfl, kk, _⟩
   ·have EX := Lib.hid ex
    have KK := Lib.hid kk
    have KR := Lib.hid kr
    clear ex kk kr hq
    repeat' (first | (apply WO1.round; exact Z1; exact Z1; (focus (exact hyl)); simp only [pM, pN, rR, rP]) | refine go1 ?_ | refine go2 (fun hh => ?_) (fun hh => ?_) | fail)
    rw [roundQ_norm]
    have hLL := ((KR.out.2 (pn + 1 + 1 + 1) HLZ.out (fun ho => HFL.out (HRI.out.2 _ ho))).1).trans HZL.out
    simp only [endV, hLL]
    have := HBG.out s' h' KK.out KR.out
    exact stR_go (HW.out.trans EX.out) this.1 this.2
   ·exact kk.elim
 ·intro r hcl hR
  rw [hfold] at hR
  obtain ⟨h', rfl, hgo1, _⟩ := hR
  obtain ⟨hI, hRel⟩ := hgo1 rfl
  have kL := hRel.2 (pn + 1 + 1 + 1) (by rw [NXT]; omega) (NO _ _ (by omega))
  have hL := kL.1.trans (GEL _)
  have rt := (RX _).trans hRel
  refine W.rangeNorm rfl ?_ hcl hL (fun e => by cases e) ?_
  ·first | exact Z2 | exact Z1
  generalize hput : Heap.put h' _ _ = hz
  have hfin : I (((pathsL (suitD d) rl n []).filter (fun p => doesB p d)).foldl f s0) hz ∧ Rel own ⟨pn, pm⟩ hz := by
   rw [← hput]
   exact fin_go ok (show pn ≤ pn + 1 + 1 + 1 by omega) rt hI kL.2 (fun z r e => by rw [hL] at e; cases e)
  have HFIN := Lib.hid hfin
  clear hcl hL hI hRel kL rt hput hfin hgo1 GET GEL NXT IX RX NO HX mY mH mS mB hfold hstp ok hmm g1 g1' gd' k87
  simp only [bN, tN]
  repeat' (first | refine goS ?_ | refine go2 (fun hh => ?_) (fun hh => ?_) | fail)
  simp only [eN]
  all_goals (simp only [resV_def (X := dX c) Tryz.func193, Tryz.results193]; first | exact J5 | refine J6 ?_)
  exact stU_go rfl HFIN.out.1 HFIN.out.2
end
end Go.AM
